/- Lemmas for RPP: functions of the program as predicate transformers, and their contracts. -/
import Derived.OrdersHeld
import Derived.Laws.Sem
import Derived.KernelRfl
import Derived.RangeFuncRecord
import Derived.TacticsIn
import Derived.Tactics
import Derived.Test.YtgjfejoohojokaaGreatDoorProg
import Derived.Laws.Strings
set_option linter.all false
set_option maxRecDepth 100000
set_option maxHeartbeats 4000000
namespace Kw
open Go
def a0a:=@if_neg
def a0b:=@if_pos
def a0f:=@cond_false
def a0j:=@Int.toNat_natCast
def a0l:=@Option.isNone_some
def a0p:=@Bool.not_true
def a0v:=@Classical.byContradiction
def a0y:=@Nat.mul_one
def a0A:=@List.mem_singleton
def a0C:=@Bool.not_false
def a0E:=@List.mem_cons
def a0K:=@Nat.zero_add
def a0L:=@Option.isNone_none
def a0O:=@Nat.le_trans
def a0P:=@cond_true
def a0Q:=@List.getElem?_eq_getElem
def a0T:=@List.mem_append
def a0U:=@Nat.le_refl
def a0X:=@Nat.lt_of_lt_of_le
def a0Y:=@List.take_of_length_le
def a00:=@decide_eq_true
def a04:=@List.getElem_mem
def a06:=@and_assoc
def a07:=@Nat.zero_le
def a09:=@decide_eq_false
def a1a:=@true_and
def a1b:=@List.length_cons
def a1d:=@and_true
def a1e:=@Array.size_push
def a1f:=@List.getD_eq_getElem?_getD
def a1h:=@List.length_append
def a1i:=@List.take_add_one
def a1j:=@Array.getElem?_eq_some_iff
def a1l:=@List.not_mem_nil
def a1n:=@List.mem_map
def a1o:=@List.eq_nil_of_length_eq_zero
def a1p:=@List.length_map
def a1q:=@List.length_take
def a1s:=@List.length_nil
def a1w:=@List.setIfInBounds_toArray
def a1y:=@List.getElem?_cons_succ
def a1C:=@List.getElem?_cons_zero
def a1D:=@List.size_toArray
def a1F:=@Int.le_refl
def a1K:=@List.getD_cons_zero
def a1M:=@Bool.false_eq_true
def a1O:=@List.getElem?_toArray
def a1S:=@List.drop_eq_getElem_cons
def a1Z:=@Array.getElem?_setIfInBounds_ne
def a18:=@List.append_assoc
def a2a:=@Array.getElem?_modify
def a2b:=@Bool.and_eq_true
def a2h:=@or_false
def a2k:=@List.map_cons
def a2l:=@List.mem_filter
def a2m:=@List.map_append
def a2q:=@List.set_cons_zero
def a2r:=@List.set_cons_succ
def a2s:=@List.getElem?_map
def a2t:=@Nat.lt_or_ge
def a2u:=@Array.getElem?_eq_none
def a2v:=@Int.tmod_eq_emod_of_nonneg
def a2w:=@List.length_filter_le
def a2x:=@List.getElem?_append_left
def a2y:=@Int.tdiv_eq_ediv_of_nonneg
def a2z:=@List.pairwise_cons
def a2A:=@List.nodup_iff_pairwise_ne
def a2B:=@Nat.lt_irrefl
def a2C:=@Array.getElem?_toList
def a2D:=@Array.getElem?_push
def a2E:=@Int.toNat_of_nonneg
def a2F:=@List.mem_cons_of_mem
def a2G:=@List.eq_nil_or_concat
def a2H:=@List.length_mergeSort
def a2I:=@List.getElem?_eq_none
def a2J:=@List.take_append_of_le_length
def a2K:=@Nat.pow_le_pow_right
def a2L:=@Bool.eq_iff_iff
def a2M:=@List.pairwise_map
def a2N:=@List.all_eq_true
def a2O:=@List.getElem_of_mem
def a2P:=@List.concat_eq_append
def a2Q:=@Option.map_some
def a2R:=@List.nodup_cons
def a2S:=@List.append_nil
def a2T:=@List.filter_append
def a2U:=@List.mem_append_left
def a2V:=@List.ext_getElem
def a2W:=@List.mem_of_mem_take
def a2X:=@List.mem_iff_getElem
def a2Y:=@Array.getElem?_append_left
def a2Z:=@List.getElem?_append_right
def a21:=@not_or
def a23:=@List.nodup_append
def a26:=@List.map_nil
def a27:=@List.getElem?_take_of_lt
def a29:=@List.take_length
def a3a:=@Nat.mul_le_mul_right
def a3b:=@List.pairwise_append
def a3c:=@List.findIdx?_eq_some_iff_getElem
def a3d:=@Nat.testBit_lt_two_pow
def a3e:=@List.getElem_map
def a3f:=@List.length_replicate
def a3g:=@Array.getElem?_eq_getElem
def a3h:=@Nat.add_mul
def a3i:=@Int.mul_comm
def a3j:=@List.getElem_append_left
def a3k:=@List.cons_append
def a3l:=@List.drop_length
def a3m:=@Option.isSome_none
def a3n:=@List.map_map
def a3o:=@List.mem_append_right
def a3p:=@List.perm_ext_iff_of_nodup
def a3q:=@ByteArray.ext
def a3r:=@List.findIdx?_eq_none_iff
def a3s:=@List.getElem?_eq_some_iff
def a3t:=@Ne.symm
def a3u:=@List.find?_cons
def a3v:=@Nat.le_succ
def a3w:=@List.getElem_cons_zero
def a3x:=@Bool.not_eq_true'
def a3y:=@Array.size_append
def a3z:=@Array.getElem?_setIfInBounds
def a3A:=@Array.length_toList
def a3B:=@List.map_congr_left
def a3C:=@List.mem_or_eq_of_mem_set
def a3D:=@List.foldl_cons
def a3E:=@Array.getElem?_push_size
def a3F:=@List.getElem_range
def a3G:=@Option.isSome_some
def a3H:=@Nat.pow_succ
def a3I:=@Bool.false_and
def a3J:=@Nat.testBit_mod_two_pow
def a3K:=@Nat.testBit_div_two_pow
def a3L:=@Int.eq_ofNat_of_zero_le
def a3M:=@List.getElem_take
def a3N:=@List.getElem?_set
def a3O:=@List.ext_getElem?
def a3P:=@Option.map_eq_some_iff
def a3Q:=@ne_eq
def a3R:=@List.Perm.map
def a3S:=@beq_self_eq_true
def a3T:=@List.take_succ_eq_append_getElem
def a3U:=@List.length_drop
def a3V:=@Nat.le_add_right
def a3W:=@List.set_append_right
def a3X:=@ByteArray.size_append
def a3Y:=@ByteArray.data_append
def a3Z:=@Nat.sub_zero
def a30:=@Option.map_none
def a31:=@Nat.two_pow_pos
def a32:=@Int.mul_le_mul_of_nonneg_right
def a33:=@List.length_set
def a34:=@List.getElem!_eq_getElem?_getD
def a35:=@List.nil_append
def a4a:=@BitVec.getLsbD_ofNat
def a4b:=@Nat.sub_self
def a4c:=@Int.mul_le_mul_of_nonneg_left
def a4d:=@Nat.mul_le_mul
def a4e:=@List.mem_range
def a4f:=@List.take_take
def a4g:=@List.mem_cons_self
def a4h:=@List.append_of_mem
def a4i:=@Nat.eq_zero_or_pos
def a4j:=@Int.lt_or_gt_of_ne
def a4k:=@List.all_cons
def a4l:=@Int.add_assoc
def a4m:=@Bool.true_and
def a4n:=@List.length_range
def a4o:=@Array.toList_push
def a4p:=@List.Sublist.refl
def a4q:=@List.take_sublist
def a4r:=@Nat.mod_lt
def a4s:=@BitVec.toNat_and
def a4t:=@Int.neg_tmod
def a4u:=@Nat.add_zero
def a4v:=@List.nodup_range
def a4w:=@Int.add_zero
def a4x:=@List.perm_middle
def a4y:=@Option.getD_some
def a4z:=@List.getElem_inj
def a4A:=@Int.natCast_ediv
def a4B:=@Int.lt_or_le
def a4C:=@Array.ext
def a4D:=@Int.natCast_mul
def a4E:=@Nat.min_eq_left
def a4F:=@List.range_succ
def a4G:=@List.sum_append
def a4H:=@Int.tmod_nonneg
def a4I:=@Int.neg_neg
abbrev au:=Array Obj
def aq (H:au) (a:Addr):Option Value :=
 match H[a.block]? with
 | some (.cells c _ _)=>if a.spot.isSome then none else c[a.off]?
 | _=>none
def kZ (H:au) (r:Nat):Option (TypeId × Nat) :=
 match H[r]? with
 | some (.cells c elem _)=>some (elem,c.size)
 | _=>none
def pR (H:au) (a:Addr):Bool :=
 match H[a.block]? with
 | some (.cells _ _ (lo,hi))=>lo<=a.off && a.off<hi
 | _=>false
def fA (H:au) (a:Addr) (n:Nat):au :=
 if n=0 then H else
 H.modify a.block fun
   | .cells c elem (lo,hi)=>.cells c elem (if lo == hi then (a.off,a.off+n) else (min lo a.off,max hi (a.off+n)))
   | o=>o
def aQ (H:au) (a:Addr) (v:Value):au :=
 H.modify a.block fun
   | .cells c elem frozen=>.cells (if a.spot.isSome then c else c.setIfInBounds a.off v) elem frozen
   | o=>o
def Wr (H:au) (a:Addr):Prop:=(∃ v,aq H a=some v)∧pR H a=false
def dJ:Value->Bool
 | .agg _ | .tuple _=>false
 | _=>true
def dZ:Obj->Bool
 | .cells .. | .deferred _ | .loop _=>true
 | _=>false
def dK (H H':au):Prop:=H.size<=H'.size∧∀ (b:Nat) (ds:Option (List Deferred)),H[b]?=some (Obj.deferred ds)->H'[b]?=some (Obj.deferred ds)
def dj (w w':World):Prop:=w'.tape=w.tape∧w'.os=w.os∧w'.output=w.output∧w.drawn<=w'.drawn∧dK w.heap w'.heap
def cB (P:Program){α:Type}:Sem α->(α->au->Prop)->au->Prop
 | .pure a,Q,H=>Q a H
 | .load _ a k,Q,H=>∃ v,aq H a=some v∧cB P (k v) Q H
 | .store _ a v k,Q,H=>dJ v=true∧Wr H a∧cB P k Q (aQ H a v)
 | .new o k,Q,H=>cB P (k H.size) Q (H.push o)
 | .shape r k,Q,H=>cB P (k (kZ H r)) Q H
 | .freeze a n k,Q,H=>cB P k Q (fA H a n)
 | .frozen a k,Q,H=>cB P (k (pR H a)) Q H
 | .getObj r k,Q,H=>∃ o,H[r]?=some o∧dZ o=false∧cB P (k o) Q H
 | .setObj r o k,Q,H=>(∃ o',H[r]?=some o'∧dZ o'=false)∧cB P k Q (H.setIfInBounds r o)
 | .choose q k,Q,H=>if q.forced then cB P (k 0) Q H else ∀ t,cB P (k (q.cut t)) Q H
 | .sys _ _,_,_=>False
 | .program k,Q,H=>cB P (k P) Q H
 | .mark _ k,Q,H=>cB P k Q H
 | .halt _,_,_=>False
def LB (P:Program){α:Type}:Sem α->(α->Prop)->Prop
 | .pure a,k=>k a
 | .program c,k=>LB P (c P) k
 | .mark _ c,k=>LB P c k
 | _,_=>False
def qO (d:Option TypeDesc) (k:Value->Prop):Prop :=
 match d with
 | some (.int κ)=>∃ n:Int,k (.int κ n)
 | some .bool=>∃ b:Bool,k (.bool b)
 | some .string=>∃ s:ByteArray,k (.string s)
 | some (.pointer _)=>∃ p:Option Addr,k (.pointer p)
 | some (.slice _)=>∃(a:Option Addr) (l c:Nat),k (.slice a l c)
 | some (.map _ _)=>∃ r:Option Nat,k (.map r)
 | some (.func _ _ _)=>∃(f:Nat) (g h:Array Value),k (.func (.func f) g h)
 | _=>∃ v:Value,k v
def nv (d:Option TypeDesc) (k:Value->Prop):Prop :=
 match d with
 | some (.func _ _ _)=>(∃(f:Nat) (g h:Array Value),k (.func (.func f) g h))∨k .nilFunc
 | d=>qO d k
def QG:List (Option TypeDesc)->(List Value->Prop)->Prop
 | [],k=>k []
 | d :: r,k=>nv d fun v=>QG r fun vs=>k (v :: vs)
def vC (P:Program):Nat->TypeId->List (Option TypeDesc)
 | 0,_=>[]
 | n+1,t =>
  match P.underlying t with
  | some (.struct fs)=>fs.toList.flatMap fun f=>vC P n f.type
  | some (.array len e)=>(List.replicate len (vC P n e)).flatten
  | d=>[d]
def Pe (P:Program) (t:TypeId) (k:Value->Prop):Prop :=
 match P.underlying t with
 | some (.struct _) | some (.array _ _)=>QG (vC P 20 t) fun vs=>k (.agg vs.toArray)
 | d=>qO d k
def N9 (P:Program):List TypeId->(List Value->Prop)->Prop
 | [],k=>k []
 | t :: r,k=>Pe P t fun v=>N9 P r fun vs=>k (v :: vs)
def zn (P:Program) (t:TypeId) (v:Value) (k:Value->Prop):Prop :=
 match P.underlying t with
 | some (.tuple ts)=>N9 P ts.toList fun vs=>v=.tuple vs.toArray∧k (.tuple vs.toArray)
 | _=>Pe P t fun x=>v=x∧k x
def yu (H:au) (ad:Addr):Nat->List (Option TypeDesc)->(List Value->List (Addr × Value)->Prop)->Prop
 | _,[],k=>k [] []
 | i,d :: r,k=>nv d fun v=>aq H (ad.add i)=some v∧yu H ad (i+1) r fun vs cs=>k (v :: vs) ((ad.add i,v) :: cs)
def qa (P:Program) (t:TypeId) (ad:Addr) (H:au) (k:Value->List (Addr × Value)->Prop):Prop :=
 match P.underlying t with
 | some (.struct _) | some (.array _ _) =>
  match decide ((P.info? t).map (·.size)=some (vC P 20 t).length) with
  | true=>yu H ad 0 (vC P 20 t) fun vs cs=>k (.agg vs.toArray) cs
  | false=>False
 | d=>match d with
  | some _=>nv d fun v=>aq H ad=some v∧k v [(ad,v)]
  | none=>False
def tN (ad:Addr):Nat->List Value->(au->Prop)->au->Prop
 | _,[],k,H=>k H
 | i,v :: r,k,H =>
  match dJ v with
  | true=>Wr H (ad.add i)∧tN ad (i+1) r k (aQ H (ad.add i) v)
  | false=>False
def tE (P:Program) (t:TypeId) (ad:Addr) (v:Value) (k:au->Prop) (H:au):Prop :=
 match decide ((P.info? t).map (·.size)=some v.cells.toList.length) with
 | true=>tN ad 0 v.cells.toList k H
 | false=>False
def ag (P:Program) (f:FuncId) (args:Array Value) (Q:Value->au->Prop) (H:au):Prop :=
 (∃ fn,P.funcs[f]?=some fn∧fn.body.isSome=true) ∧
 ∀ w:World,w.heap=H->Calls P f args w fun e w'=>∃ v,e=.returned v∧Q v w'.heap∧dj w w'
def Pd (k:Value->Prop):Next->Prop
 | .value v=>k v
 | _=>False
def li (P:Program) (t:TypeId):Nat:=((P.info? t).map (·.size)).getD 0
def Qa (P:Program) (t:TypeId):Bool :=
 match P.underlying t with
 | some (.struct _) | some (.array _ _) | none=>false
 | some _=>decide ((P.info? t).map (·.size)=some 1)
def kN (base:Option Addr) (cap:Nat) (l:Int) (size:Nat):Option Addr:=if cap=l.toNat then base else base.map (·.add (l.toNat*size))
def nS (k:IntKind) (x y:Int):Int:=k.wrap (BitVec.ofInt k.bits x &&& BitVec.ofInt k.bits y).toNat
def wJ (k:IntKind) (x y:Int):Int:=k.wrap (BitVec.ofInt k.bits x ||| BitVec.ofInt k.bits y).toNat
def Ln (k:IntKind) (x y:Int):Int:=k.wrap (BitVec.ofInt k.bits x ^^^ BitVec.ofInt k.bits y).toNat
def nj (k:IntKind) (x y:Int):Int:=k.wrap (BitVec.ofInt k.bits x &&& ~~~(BitVec.ofInt k.bits y)).toNat
def fu (k:IntKind) (x y:Int):Int:=k.wrap (x*2 ^ (min y.toNat k.bits))
def iL (k:IntKind) (x y:Int):Int:=x.fdiv (2 ^ (min y.toNat k.bits))
def bO (x y:ByteArray):Bool:=x.toList == y.toList
def jk (P:Program) (o:Oper) (ρ:Operand->Value) (k:Value->Prop):Prop :=
 match o.op with
 | .pick c x y =>
  match ρ c with
  | .bool b=>cond b (k (ρ x)) (k (ρ y))
  | _=>False
 | .nilCheck x =>
  match ρ x with
  | .pointer p=>∃ ad,p=some ad∧k (.pointer (some ad))
  | _=>LB P (execOp ρ o) (Pd k)
 | .indexAddr t x i =>
  match P.underlying t,ρ x,ρ i with
  | some (.slice e),.slice base len _,.int _ i =>
   match (P.info? e).isSome with
   | true=>(0<=i∧i<len)∧∃ b,base=some b∧k (.pointer (some (b.add (i.toNat*li P e))))
   | false=>False
  | some (.array len e),.pointer (some b),.int _ i =>
   match (P.info? e).isSome with
   | true=>(0<=i∧i<(len:Int))∧k (.pointer (some (b.add (i.toNat*li P e))))
   | false=>False
  | _,_,_=>False
 | .index t x i =>
  match P.underlying t,ρ x,ρ i with
  | some .string,.string s,.int _ i=>∃ b:UInt8,(0<=i∧s[i.toNat]?=some b)∧k (.int .u8 b.toNat)
  | some (.array len e),.agg cs,.int _ i =>
   match Qa P e with
   | true=>(0<=i∧i<(len:Int))∧qO (P.underlying e) fun v=>cs[i.toNat]?=some v∧k v
   | false=>LB P (execOp ρ o) (Pd k)
  | _,_,_=>False
 | .slice t x lo (some hi) (some mx) =>
  match P.underlying t,ρ x,ρ hi,ρ mx with
  | some (.slice e),.slice base _ cap,.int _ h,.int _ m =>
   match (P.info? e).isSome with
   | true =>
    match lo.map ρ with
    | none=>(((0<=m∧m<=(cap:Int))∧0<=h∧h<=m))∧k (.slice base h.toNat m.toNat)
    | some (.int _ l)=>(((0<=m∧m<=(cap:Int))∧0<=h∧h<=m)∧0<=l∧l<=h)∧k (.slice (kN base m.toNat l (li P e)) (h.toNat-l.toNat) (m.toNat-l.toNat))
    | _=>False
   | false=>False
  | _,_,_,_=>False
 | .slice t x lo hi none =>
  match P.underlying t,ρ x with
  | some (.slice e),.slice base len cap =>
   match (P.info? e).isSome with
   | true =>
    match lo.map ρ,hi.map ρ with
    | none,none=>k (.slice base len cap)
    | none,some (.int _ h)=>(0<=h∧h<=(cap:Int))∧k (.slice base h.toNat cap)
    | some (.int _ l),none=>(0<=l∧l<=(len:Int))∧k (.slice (kN base cap l (li P e)) (len-l.toNat) (cap-l.toNat))
    | some (.int _ l),some (.int _ h)=>((0<=h∧h<=(cap:Int))∧0<=l∧l<=h)∧k (.slice (kN base cap l (li P e)) (h.toNat-l.toNat) (cap-l.toNat))
    | _,_=>False
   | false=>False
  | some .string,.string s =>
   match lo.map ρ,hi.map ρ with
   | none,none=>k (.string (s.extract 0 s.size))
   | none,some (.int _ h)=>(0<=h∧h<=(s.size:Int))∧k (.string (s.extract 0 h.toNat))
   | some (.int _ l),none=>(0<=l∧l<=(s.size:Int))∧k (.string (s.extract l.toNat s.size))
   | some (.int _ l),some (.int _ h)=>((0<=h∧h<=(s.size:Int))∧0<=l∧l<=h)∧k (.string (s.extract l.toNat h.toNat))
   | _,_=>False
  | _,_=>False
 | .binOp op t x y _ =>
  match op,P.underlying t,ρ x,ρ y with
  | .eql,some (.pointer _),.pointer p,.pointer none=>k (.bool p.isNone)
  | .neq,some (.pointer _),.pointer p,.pointer none=>k (.bool (!p.isNone))
  | .eql,some (.slice _),.slice p _ _,.slice none _ _=>k (.bool p.isNone)
  | .neq,some (.slice _),.slice p _ _,.slice none _ _=>k (.bool (!p.isNone))
  | .eql,some (.map _ _),.map p,.map none=>k (.bool p.isNone)
  | .neq,some (.map _ _),.map p,.map none=>k (.bool (!p.isNone))
  | .quo,_,.int κ x,.int κ' y=>match decide (κ=κ') with
   | true=>cond (decide (y=0)) False (k (.int κ (κ.wrap (x.tdiv y))))
   | false=>False
  | .rem,_,.int κ x,.int κ' y=>match decide (κ=κ') with
   | true=>cond (decide (y=0)) False (k (.int κ (x.tmod y)))
   | false=>False
  | .shl,_,.int κ x,.int _ y=>cond (decide (y<0)) False (k (.int κ (fu κ x y)))
  | .shr,_,.int κ x,.int _ y=>cond (decide (y<0)) False (k (.int κ (iL κ x y)))
  | .add,_,.string x,.string y=>cond (decide (((x.size+y.size:Nat):Int) > IntKind.i64.max)) False (k (.string (x++y)))
  | _,_,_,_=>LB P (execOp ρ o) (Pd k)
 | _=>LB P (execOp ρ o) (Pd k)
def xu (P:Program) (o:Oper):Bool :=
 match o.op with
 | .move _ | .assign _ | .pick .. | .build .. | .nilCheck _ | .unOp .. | .makeInterface .. | .makeFunc .. | .slice .. | .fieldAddr .. | .field .. | .indexAddr .. | .index .. | .extract ..=>true
 | .binOp op t x y _ =>
  match P.underlying t with
  | some (.pointer _)=>(match y with | .const (.pointer none)=>true | _=>false)
  | some (.interface _) | some (.struct _) | some (.array _ _)=>false
  | _=>(match op,x with | _,_=>true)
 | .convert src dst _ =>
  match P.underlying src,P.underlying dst with
  | some (.slice _),some (.slice _)=>false
  | some (.slice _),_=>false
  | some .string,some (.slice _)=>false
  | _,_=>true
 | .call c =>
  match c.callee with
  | .builtin .len | .builtin .cap =>
   (match (c.argTypes[0]?).bind P.underlying with
    | some .string | some (.slice _) | some (.array _ _)=>true
    | _=>false)
  | .builtin .min | .builtin .max=>true
  | _=>false
 | _=>false
def P5 (v:Value) (k:Value->Prop):Prop:=(v=.tuple #[.bool false]∧k (.tuple #[.bool false]))∨∃ x y:Value,v=.tuple #[.bool true,x,y]∧k (.tuple #[.bool true,x,y])
def wv (P:Program) (o:Oper) (ρ:Operand->Value) (k:Value->au->Prop) (H:au):Prop :=
 match xu P o with
 | true=>jk P o ρ fun v=>k v H
 | false =>
  match o.op with
  | .load t x =>
   match ρ x with
   | .pointer (some ad)=>qa P t ad H fun v _=>k v H
   | _=>False
  | .store t x v =>
   match ρ x with
   | .pointer (some ad)=>tE P t ad (ρ v) (k undef) H
   | _=>False
  | .alloc e =>
   match (P.info? e).bind (·.zero) with
   | some z=>k (.pointer (some ⟨H.size,0,none⟩)) (H.push (.cells z.cells e))
   | none=>False
  | .box e x=>k (.pointer (some ⟨H.size,0,none⟩)) (H.push (.cells (ρ x).cells e))
  | .buildSlice t len parts=>cB P (Instr.buildSlice t len (parts.map fun (i,x)=>(i,ρ x))) k H
  | .makeMap _ none=>k (.map (some H.size)) (H.push (.map #[] 0))
  | .makeSlice t l c=>cB P (Instr.makeSlice t (ρ l) (ρ c)) (fun v H'=>zn P o.type v fun x=>k x H') H
  | .lookup t m key ok=>cB P (Instr.lookup t (ρ m) (ρ key) ok) (fun v H'=>zn P o.type v fun x=>k x H') H
  | .mapUpdate t m key x=>cB P (Instr.mapUpdate t (ρ m) (ρ key) (ρ x)) (fun _ H'=>k undef H') H
  | .insert t m key x=>cB P (Instr.mapUpdate t (ρ m) (ρ key) (ρ x)) (fun _ H'=>k undef H') H
  | .mapEntry t m key=>cB P (Instr.mapEntry t (ρ m) (ρ key)) (fun v H'=>k v H') H
  | .entryStore t m s x=>cB P (Instr.entryStore t (ρ m) (ρ s) (ρ x)) (fun _ H'=>k undef H') H
  | .range t x=>cB P (Instr.range t (ρ x)) k H
  | .next it s=>cB P (Instr.next (ρ it) s o.type) (fun v H'=>P5 v fun x=>k x H') H
  | .convert src dst x=>cB P (convert src dst (ρ x)) (fun v H'=>zn P o.type v fun x=>k x H') H
  | .binOp op t x y _=>cB P (do eqGuard op t x y (ρ x) (ρ y);binOp op t (ρ x) (ρ y)) (fun v H'=>zn P o.type v fun x=>k x H') H
  | .call c =>
   match c.callee with
   | .value f =>
    match ρ f with
    | .func (.func g) first cap=>ag P g ((first++c.args.map ρ)++cap) (fun v H'=>zn P o.type v fun x=>k x H') H
    | _=>False
   | .builtin .append=>cB P (Builtin.append_ c.argTypes o.type (c.args.map ρ)) (fun v H'=>zn P o.type v fun x=>k x H') H
   | .builtin .copy=>cB P (Builtin.copy_ c.argTypes o.type (c.args.map ρ)) (fun v H'=>zn P o.type v fun x=>k x H') H
   | .builtin .clear=>cB P (Builtin.clear_ c.argTypes o.type (c.args.map ρ)) k H
   | .builtin .delete=>cB P (Builtin.delete_ c.argTypes o.type (c.args.map ρ)) k H
   | .builtin .len=>cB P (Builtin.len_ c.argTypes o.type (c.args.map ρ)) (fun v H'=>zn P o.type v fun x=>k x H') H
   | .builtin .unsafeSliceData=>cB P (Builtin.unsafeSliceData_ c.argTypes o.type (c.args.map ρ)) (fun v H'=>zn P o.type v fun x=>k x H') H
   | .builtin .unsafeString=>cB P (Builtin.unsafeString_ c.argTypes o.type (c.args.map ρ)) (fun v H'=>zn P o.type v fun x=>k x H') H
   | _=>False
  | _=>False
def nO (ops:Array Oper) (o:Oper) (a:Act) (yes no:Act->Prop):Prop :=
 match o.guard with
 | none=>yes a
 | some (j,want) =>
  match (ops[j]?).bind (·.dst) with
  | none=>no a
  | some d =>
   match a.tmps[d]? with
   | some (.bool b) =>
    cond b (match want with | true=>yes (a.put (some d) (.bool true)) | false=>no (a.put (some d) (.bool true)))
     (match want with | true=>no (a.put (some d) (.bool false)) | false=>yes (a.put (some d) (.bool false)))
   | some (.tuple _)=>no a
   | none=>no a
   | _=>False
def jK (P:Program) (l:Nat) (args:Array Value) (Q:Value->au->Prop) (H:au):Prop :=
 ∀ w:World,w.heap=H->∃ fn tmps assign body,(Instr.yield l args).run P w=.ok (.round l fn tmps assign body) w ∧
  RoundIn Fence.wide 0 P l fn tmps assign body w fun e w'=>∃ v,e=.returned v∧Q v w'.heap∧dj w w'
def LL (ops:Array Oper) (d:Option Tmp) (i:Nat):Option TypeId :=
 (ops.toList.find? fun q=>match q.op with
  | .extract (.tmp t) j=>decide (some t=d) && decide (j=i)
  | _=>false).map (·.type)
def LY (P:Program) (t:Option TypeId) (k:Value->Prop):Prop :=
 match t with
 | some t=>Pe P t k
 | none=>∃ v:Value,k v
def xn (P:Program) (ops:Array Oper) (o:Oper) (a:Act) (k:Act->au->Prop) (H:au):Prop :=
 match o.op with
 | .defer c =>
  match c.callee with
  | .value f =>
   match a.eval f with
   | .func (.func g) first cap=>k ({ a with defers:=⟨.fn (.func g) cap,first++c.args.map a.eval⟩ :: a.defers }.put o.dst undef) H
   | _=>False
  | _=>False
 | .entry it=>cB P (Instr.entry (a.eval it)) (fun v H'=>LY P (LL ops o.dst 0) fun x=>LY P (LL ops o.dst 1) fun y=>v=.tuple #[x,y]∧k (a.put o.dst (.tuple #[x,y])) H') H
 | .call c =>
  match c.callee with
  | .value f =>
   match a.eval f with
   | .func (.yield l) first _=>jK P l (first++c.args.map a.eval) (fun v H'=>zn P o.type v fun x=>k (a.put o.dst x) H') H
   | _=>wv P o a.eval (fun v H'=>k (a.put o.dst v) H') H
  | _=>wv P o a.eval (fun v H'=>k (a.put o.dst v) H') H
 | _=>wv P o a.eval (fun v H'=>k (a.put o.dst v) H') H
def yA (P:Program) (ops:Array Oper) (Q:Act->au->Prop):List Oper->Act->au->Prop
 | [],a,H=>Q a H
 | o :: rest,a,H =>
  nO ops o a (fun a=>xn P ops o a (fun a' H'=>yA P ops Q rest a' H') H) (fun a=>yA P ops Q rest (a.put o.dst undef) H)
def nu (ops:Array Oper) (i:Nat):List Nat :=
 match ops[i]? with
 | some o=>(o.after.toList.filter (Region.binds .any)).map (·.on)
 | none=>[]
def yW (ops:Array Oper):Nat->List Nat->List Nat
 | 0,acc=>acc
 | p+1,acc=>yW ops p (if acc.contains p then nu ops p++acc else acc)
def PX (ops:Array Oper) (i:Nat):List Nat:=yW ops i (nu ops i)
def jE:List (Addr × Value)->au->Prop
 | [],_=>True
 | (a,v) :: r,H=>aq H a=some v∧jE r H
def Holds:List (Nat × List (Addr × Value))->au->Prop
 | [],_=>True
 | (_,l) :: r,H=>jE l H∧Holds r H
def oN (ops:Array Oper) (i:Nat) (held:List (Nat × List (Addr × Value))):List (Nat × List (Addr × Value)):=held.filter fun h=>!(PX ops i).contains h.1
def DE (P:Program) (o:Oper):Bool:=xu P o || (match o.op with | .load ..=>true | _=>false)
def yg:List Nat->(Nat->Prop)->Prop
 | [],_=>True
 | [i],p=>p i
 | i :: r,p=>p i∧yg r p
def Es (P:Program) (ops:Array Oper) (listed:Array Bool):Option Nat :=
 (Region.ready .any ops listed).find? fun i=>((ops[i]?).map (DE P)).getD false
def je (P:Program) (ops:Array Oper) (Q:Act->au->Prop):Nat->Array Bool->List (Nat × List (Addr × Value))->Act->au->Prop
 | 0,listed,_,a,H=>match (Region.ready .any ops listed).isEmpty with
  | true=>Q a H
  | false=>False
 | n+1,listed,held,a,H =>
  match Es P ops listed with
  | some i =>
   match Region.free .any ops listed i,ops[i]? with
   | true,some o =>
    nO ops o a
     (fun a =>
      match xu P o with
      | true=>jk P o a.eval fun v=>je P ops Q n (listed.setIfInBounds i true) held (a.put o.dst v) H
      | false =>
       match o.op with
       | .load t x =>
        match a.eval x with
        | .pointer (some ad)=>qa P t ad H fun v cs=>je P ops Q n (listed.setIfInBounds i true) ((i,cs) :: held) (a.put o.dst v) H
        | _=>False
       | _=>False)
     (fun a=>je P ops Q n (listed.setIfInBounds i true) held (a.put o.dst undef) H)
   | _,_=>False
  | none =>
   match Region.ready .any ops listed with
   | []=>Q a H
   | rs=>yg rs fun i =>
    match ops[i]? with
    | some o =>
     nO ops o a
      (fun a=>wv P o a.eval (fun v H'=>Holds (oN ops i held) H'∧je P ops Q n (listed.setIfInBounds i true) (oN ops i held) (a.put o.dst v) H') H)
      (fun a=>je P ops Q n (listed.setIfInBounds i true) (oN ops i held) (a.put o.dst undef) H)
    | none=>False
def ky:Code->Nat
 | .region id _ _=>id
 | .seq a b=>(match a with | .skip=>ky b | _=>ky a)
 | .cond _ a _=>ky a
 | .block _ b=>ky b
 | .loop b=>ky b
 | _=>1000000
def eO:Code->List Nat
 | .region _ ops _=>ops.toList.filterMap (·.dst)
 | .seq a b=>eO a++eO b
 | .cond _ a b=>eO a++eO b
 | .block _ b=>eO b
 | .loop b=>eO b
 | _=>[]
def gA (o:Oper):Bool:=match o.op with | .defer _=>true | _=>false
def cu:Code->Bool
 | .region _ ops _=>ops.toList.all fun o=>!gA o
 | .seq a b=>cu a && cu b
 | .cond _ a b=>cu a && cu b
 | .block _ b=>cu b
 | .loop b=>cu b
 | .rangeFunc ..=>true
 | .skip | .label _ | .exit _ | .ret=>true
 | _=>false
def eE:Code->Bool
 | .region _ _ draw=>!draw
 | .seq a b=>eE a && eE b
 | .cond _ a b=>eE a && eE b
 | .block _ b=>eE b
 | .loop b=>eE b
 | .skip | .label _ | .exit _ | .ret=>true
 | _=>false
def de:Code->Bool
 | .region ..=>true
 | .seq a b=>de a && de b
 | .cond _ a b=>de a && de b
 | .block _ b=>de b
 | .loop b=>de b
 | .skip | .label _ | .exit _ | .ret=>true
 | _=>false
def uG (a:Act) (ws:List Nat) (g:Nat->Value):Act:=ws.foldl (fun a i=>a.put (some i) (g i)) a
def tK (P:Program):List (Nat × TypeId)->(List (Nat × Value)->Prop)->Prop
 | [],k=>k []
 | (t,ty) :: r,k=>Pe P ty fun v=>tK P r fun ps=>k ((t,v) :: ps)
def qj (a:Act) (ps:List (Nat × Value)):Act:=ps.foldl (fun a p=>a.put (some p.1) p.2) a
def fQ (a:Act) (L:List (Nat × TypeId)):List Value:=L.map fun p=>a.tmps.getD p.1 undef
abbrev qx:=Exit->Act->au->Prop
def BU (K:Act->au->Prop) (Q:qx):qx
 | .normal,a,H=>K a H
 | e,a,H=>Q e a H
def vV (id:Nat) (Q:qx):qx
 | .exit id',a,H=>match decide (id'=id) with
  | true=>Q .normal a H
  | false=>Q (.exit id') a H
 | e,a,H=>Q e a H
abbrev xE:=Nat->Option (List (Nat × TypeId))
def rp (P:Program) (ws:List Nat) (L:List (Nat × TypeId)) (a:Act) (K:Act->au->Prop) (vs:List Value) (H:au):Prop :=
 ∀ g:Nat->Value,tK P L fun ps=>vs=ps.map (·.2)∧K (qj (uG a ws g) ps) H
def lV (fn:FuncId) (tmps:Array Value) (ps:Array Tmp) (assign body:Code) (D:Nat):Loop:={ state:=.ready,pending:=none,fn,tmps,params:=ps,assign,body,defers:=D }
def zt:List (Nat × (au->Prop))->Nat->au->Prop
 | [],_,_=>False
 | (i,K) :: r,id,H=>match decide (id=i) with
  | true=>K H
  | false=>zt r id H
def il:Code->List Nat
 | .seq a b=>il a++il b
 | .cond _ a b=>il a++il b
 | .block i b=>(il b).filter (· != i)
 | .loop b=>il b
 | .exit i=>[i]
 | _=>[]
def qg (l:Nat) (Kn Kr:au->Prop) (Ke:List (Nat × (au->Prop))) (H2:au):Prop :=
 ∃ r:Loop,H2[l]?=some (.loop r)∧r.state≠.busy ∧
  match r.pending with
  | none=>Kn (H2.setIfInBounds l (.loop { r with state:=.exhausted }))
  | some .ret=>Kr (H2.setIfInBounds l (.loop { r with state:=.exhausted }))
  | some (.exit id)=>zt Ke id (H2.setIfInBounds l (.loop { r with state:=.exhausted }))
  | _=>False
def jf:Code->List (Array Tmp × Code × Code)
 | .seq a b=>jf a++jf b
 | .cond _ a b=>jf a++jf b
 | .block _ b=>jf b
 | .loop b=>jf b
 | .rangeFunc _ ps a b=>[(ps,a,b)]
 | _=>[]
def pI (P:Program) (f:FuncId) (k:Nat):Array Tmp × Code × Code :=
 match (P.funcs[f]?).bind (·.body) with
 | some c=>(jf c).getD k (#[],.skip,.skip)
 | none=>(#[],.skip,.skip)
def BR (l:Nat) (Q:Value->au->Prop):qx
 | .normal,_,H=>∃ r:Loop,H[l]?=some (.loop r)∧Q (.bool true) (H.setIfInBounds l (.loop { r with state:=.ready,pending:=none }))
 | .ret,_,H=>∃ r:Loop,H[l]?=some (.loop r)∧Q (.bool false) (H.setIfInBounds l (.loop { r with state:=.done,pending:=some .ret }))
 | .exit id,_,H=>∃ r:Loop,H[l]?=some (.loop r)∧Q (.bool false) (H.setIfInBounds l (.loop { r with state:=.done,pending:=some (.exit id) }))
 | _,_,_=>False
def BH (l:Nat) (K:Act->au->Prop):qx
 | .normal,a,H=>∃ r:Loop,H[l]?=some (.loop r)∧r.state=.ready∧K a (H.setIfInBounds l (.loop { r with state:=.busy }))
 | _,_,_=>False
def ev (P:Program) (Ls:xE):Code->qx->Act->au->Prop
 | .skip,Q,a,H=>Q .normal a H
 | .label _,Q,a,H=>Q .normal a H
 | .region _ ops draw,Q,a,H =>
  match draw with
  | false=>yA P ops (Q .normal) ops.toList a H
  | true =>
   match Region.noSelect ops with
   | true=>je P ops (Q .normal) ops.size (Array.replicate ops.size false) [] a H
   | false=>False
 | .seq x y,Q,a,H =>
  match Ls (1000+ky y) with
  | none=>ev P Ls x (BU (ev P Ls y Q) Q) a H
  | some L =>
   match cu x with
   | true=>∃ J:List Value->au->Prop,ev P Ls x (BU (fun a' H'=>J (fQ a' L) H') Q) a H ∧
    ∀ vs H',J vs H'->rp P (eO x) L a (ev P Ls y Q) vs H'
   | false=>False
 | .cond c x y,Q,a,H =>
  match a.eval c with
  | .bool b =>
   match c with
   | .tmp t=>cond b (ev P Ls x Q (a.put (some t) (.bool true)) H) (ev P Ls y Q (a.put (some t) (.bool false)) H)
   | _=>cond b (ev P Ls x Q a H) (ev P Ls y Q a H)
  | _=>False
 | .block id b,Q,a,H=>ev P Ls b (vV id Q) a H
 | .loop b,Q,a,H =>
  match Ls (ky b) with
  | none=>False
  | some L =>
   match cu b with
   | true=>∃(I:List Value->au->Prop) (μ:List Value->au->Nat),I (fQ a L) H ∧
    ∀ vs H',I vs H'->rp P (eO b) L a (ev P Ls b (BU (fun a' H''=>I (fQ a' L) H''∧μ (fQ a' L) H''<μ vs H') Q)) vs H'
   | false=>False
 | .exit id,Q,a,H=>Q (.exit id) a H
 | .ret,Q,a,H=>Q .ret a H
 | .rangeFunc g ps assign body,Q,a,H =>
  match a.eval g with
  | .func (.func gf) first lb=>∀ fn:FuncId,ag P gf ((first++#[.func (.yield (H.size+1)) #[] #[]])++lb) (fun _ H2=>qg (H.size+1) (Q .normal a) (Q .ret a) ((il body).map fun i=>(i,Q (.exit i) a)) H2)
    ((H.push (.deferred (some []))).push (.loop (lV fn a.tmps ps assign body H.size)))
  | _=>False
 | .scope _,_,_,_=>False
 | .goto _,_,_,_=>False
 | .refuse _,_,_,_=>False
def rR (P:Program) (a:Act) (H:au):List ResultVar->(List Value->Prop)->Prop
 | [],k=>k []
 | .tmp t :: r,k=>rR P a H r fun vs=>k (a.tmps.getD t undef :: vs)
 | .cell x t :: r,k =>
  match a.tmps.getD x undef with
  | .pointer (some ad)=>qa P t ad H fun v _=>rR P a H r fun vs=>k (v :: vs)
  | _=>False
def QK (P:Program) (fn:Func) (Q:Value->au->Prop):qx
 | .normal,a,H | .ret,a,H=>rR P a H fn.results.toList fun vs=>match vs with
  | [v]=>Q v H
  | vs=>Q (.tuple vs.toArray) H
 | _,_,_=>False
def ya (P:Program) (f:FuncId) (args:Array Value) (Q:au->Prop) (H:au):Prop :=
 (∃ fn,P.funcs[f]?=some fn∧fn.body.isSome=true) ∧
 ∀ (w:World) (u:FrameMode),w.heap=H->CallsDIn Fence.wide 0 P f args u w fun e u' w'=>u'=u∧(∃ v,e=.returned v)∧Q w'.heap∧dj w w'
def lB (n:Nat) (H H':au):Prop:=H'.size=H.size∧∀ b,H'[b]?=H[b]?∨(n<=b∧H[b]?=some (.deferred (some []))∧H'[b]?=some (.deferred none))
def kh (P:Program) (fn:Func) (m:Bool) (n:Nat) (tmps:Array Value) (Q:Value->au->Prop):List Deferred->au->Prop
 | [],H =>
  match m with
  | true=>∀ H',lB n H H'->rR P ⟨tmps,[]⟩ H' fn.results.toList fun vs=>match vs with
   | [v]=>Q v H'
   | vs=>Q (.tuple vs.toArray) H'
  | false=>rR P ⟨tmps,[]⟩ H fn.results.toList fun vs=>match vs with
   | [v]=>Q v H
   | vs=>Q (.tuple vs.toArray) H
 | d :: ds,H =>
  match d.target with
  | .fn (.func g) cap =>
   match m with
   | true=>∀ H',lB n H H'->ya P g (d.args++cap) (fun H''=>kh P fn m n tmps Q ds H'') H'
   | false=>ya P g (d.args++cap) (fun H''=>kh P fn m n tmps Q ds H'') H
  | _=>False
def QS (P:Program) (fn:Func) (m:Bool) (n:Nat) (Q:Value->au->Prop):qx
 | .normal,a,H | .ret,a,H=>kh P fn m n a.tmps Q a.defers H
 | _,_,_=>False
def om (fn:Func) (args:Array Value):Act:={ tmps:=args++Array.replicate (fn.ntmps-args.size) undef,defers:=[] }
structure GoodPg (P:Program):Prop where
 mixed:P.follows .mixedOrders=true
 names : P.funcs.all (fun fn => fn.name != "runtime.NumGoroutine") = true
theorem dK.refl (H:au):dK H H:=⟨a0U _,fun _ _ h=>h⟩
theorem dK.trans {H H' H'':au} (h:dK H H') (h':dK H' H''):dK H H'':=⟨a0O h.1 h'.1,fun b ds hb=>h'.2 b ds (h.2 b ds hb)⟩
theorem dK.push (H:au) (o:Obj):dK H (H.push o):=⟨by simp,fun b ds hb=>by
 have an:b<H.size:=(a1j.1 hb).1;rw [a2D,a0a (by omega)];exact hb⟩
theorem dK.set (H:au) (a:Addr) (v:Value):dK H (aQ H a v):=⟨by simp [aQ],fun b ds hb=>by
 unfold aQ;rw [a2a];split
 ·rw [hb];rfl
 ·exact hb⟩
theorem dK.freeze (H:au) (a:Addr) (n:Nat):dK H (fA H a n):=⟨by unfold fA;split <;> simp,fun b ds hb=>by
 unfold fA;split
 ·exact hb
 ·rw [a2a];split
  ·rw [hb];rfl
  ·exact hb⟩
theorem dK.setObj {H:au}{r:Nat}{o o':Obj} (h1:H[r]?=some o') (h2:∀ ds,o'≠.deferred ds):dK H (H.setIfInBounds r o):=⟨by simp,fun b ds hb=>by
 have ic:r≠b:=fun e=>by subst e;rw [h1] at hb;exact h2 ds (Option.some.inj hb)
 rw [a1Z ic];exact hb⟩
theorem dj.refl (w:World):dj w w:=⟨rfl,rfl,rfl,a0U _,dK.refl _⟩
theorem dj.trans {w w' w'':World} (h:dj w w') (h':dj w' w''):dj w w'':=⟨h'.1.trans h.1,h'.2.1.trans h.2.1,h'.2.2.1.trans h.2.2.1,a0O h.2.2.2.1 h'.2.2.2.1,h.2.2.2.2.trans h'.2.2.2.2⟩
theorem dj.heap {w:World}{H':au} (h:dK w.heap H'):dj w { w with heap:=H' }:=⟨rfl,rfl,rfl,a0U _,h⟩
theorem oy (P:Program){α:Type} (m:Sem α):∀ (Q:α->au->Prop) (w:World),cB P m Q w.heap->∃ a w',m.run P w=.ok a w'∧Q a w'.heap∧dj w w':=by
 induction m with
 | pure a=>exact fun Q w h=>⟨a,w,rfl,h,dj.refl w⟩
 | load m a k ih =>
  rintro Q w ⟨v,hv,h⟩;obtain ⟨b,w',hr,hq⟩:=ih v Q w h;exact ⟨b,w',by simp only [Sem.run,show w.cell? a=some v from hv];exact hr,hq⟩
 | store m a v k ih =>
  rintro Q w ⟨h1,⟨⟨v0,h2⟩,h3⟩,h⟩;obtain ⟨b,w',hr,hq,hs⟩:=ih Q (w.setCell a v) h;refine ⟨b,w',?_,hq,(dj.heap (w:=w) (dK.set w.heap a v)).trans hs⟩;have e2:w.cell? a=some v0:=h2;have e3:w.frozen? a=false:=h3;cases v <;> simp only [dJ,a1M] at h1 <;> simp only [Sem.run,e2,e3,a1M,if_false] <;> exact hr
 | new o k ih =>
  intro Q w h;obtain ⟨b,w',hr,hq,hs⟩:=ih w.heap.size Q { w with heap:=w.heap.push o } h;exact ⟨b,w',hr,hq,(dj.heap (w:=w) (dK.push w.heap o)).trans hs⟩
 | shape r k ih=>exact fun Q w h=>ih _ Q w h
 | freeze a n k ih =>
  intro Q w h;have hh:(w.freeze a n).heap=fA w.heap a n:=by unfold World.freeze fA;split <;> rfl
  have Ol:dj w (w.freeze a n):=⟨by unfold World.freeze;split <;> rfl,by unfold World.freeze;split <;> rfl,by unfold World.freeze;split <;> rfl,by unfold World.freeze;split <;> exact a0U _,by rw [hh];exact dK.freeze _ _ _⟩;obtain ⟨b,w',hr,hq,hs⟩:=ih Q (w.freeze a n) (by rw [hh];exact h);exact ⟨b,w',hr,hq,Ol.trans hs⟩
 | frozen a k ih=>exact fun Q w h=>ih _ Q w h
 | getObj r k ih =>
  rintro Q w ⟨o,h1,h2,h⟩;obtain ⟨b,w',hr,hq⟩:=ih o Q w h;refine ⟨b,w',?_,hq⟩;cases o <;> simp only [dZ,Bool.true_eq_false] at h2 <;> simp only [Sem.run,h1] <;> exact hr
 | setObj r o k ih =>
  rintro Q w ⟨⟨o',h1,h2⟩,h⟩;obtain ⟨b,w',hr,hq,hs⟩:=ih Q { w with heap:=w.heap.setIfInBounds r o } h;refine ⟨b,w',?_,hq,(dj.heap (w:=w) (dK.setObj h1 fun ds e=>by rw [e] at h2;cases h2)).trans hs⟩;cases o' <;> simp only [dZ,Bool.true_eq_false] at h2 <;> simp only [Sem.run,h1] <;> exact hr
 | choose q k ih =>
  intro Q w h;simp only [cB] at h;split at h
  ·rename_i hf;obtain ⟨b,w',hr,hq⟩:=ih 0 Q w h;exact ⟨b,w',by simp only [Sem.run,hf,if_true];exact hr,hq⟩
  ·rename_i hf;obtain ⟨b,w',hr,hq,hs⟩:=ih _ Q { w with drawn:=w.drawn+1 } (h (w.tape w.drawn q));exact ⟨b,w',by simp only [Sem.run,hf];exact hr,hq,hs.1,hs.2.1,hs.2.2.1,a0O (a3v _) hs.2.2.2.1,hs.2.2.2.2⟩
 | sys c k ih=>exact fun Q w h=>h.elim
 | program k ih=>exact fun Q w h=>ih P Q w h
 | mark m k ih=>exact fun Q w h=>ih Q w h
 | halt h=>exact fun Q w h=>h.elim
theorem AE (P:Program){α:Type} (m:Sem α):∀ (k:α->Prop),LB P m k->∃ a,k a∧∀ w,m.run P w=.ok a w:=by
 induction m with
 | pure a=>exact fun k h=>⟨a,h,fun _=>rfl⟩
 | program c ih=>exact fun k h=>ih P k h
 | mark m c ih=>exact fun k h=>ih k h
 | _=>exact fun k h=>h.elim
theorem ls {d:Option TypeDesc}{k:Value->Prop} (h:qO d k):∃ v,k v:=by
 unfold qO at h;split at h
 ·obtain ⟨_,h⟩:=h;exact ⟨_,h⟩
 ·obtain ⟨_,h⟩:=h;exact ⟨_,h⟩
 ·obtain ⟨_,h⟩:=h;exact ⟨_,h⟩
 ·obtain ⟨_,h⟩:=h;exact ⟨_,h⟩
 ·obtain ⟨_,_,_,h⟩:=h;exact ⟨_,h⟩
 ·obtain ⟨_,h⟩:=h;exact ⟨_,h⟩
 ·obtain ⟨_,_,_,h⟩:=h;exact ⟨_,h⟩
 ·exact h
theorem kE {d:Option TypeDesc}{k:Value->Prop} (h:nv d k):∃ v,k v:=by
 unfold nv at h;split at h
 ·rcases h with ⟨f,g,c,h⟩ | h
  ·exact ⟨_,h⟩
  ·exact ⟨_,h⟩
 ·exact ls h
theorem ri:∀ {l:List (Option TypeDesc)}{k:List Value->Prop},QG l k->∃ vs,k vs
 | [],_,h=>⟨[],h⟩
 | _ :: _,_,h=>let ⟨_,h⟩:=kE h;let ⟨_,h⟩:=ri h;⟨_,h⟩
theorem nT {P:Program}{t:TypeId}{k:Value->Prop} (h:Pe P t k):∃ v,k v:=by
 unfold Pe at h;split at h
 ·obtain ⟨_,h⟩:=ri h;exact ⟨_,h⟩
 ·obtain ⟨_,h⟩:=ri h;exact ⟨_,h⟩
 ·exact ls h
theorem tk {P:Program}:∀ {l:List TypeId}{k:List Value->Prop},N9 P l k->∃ vs,k vs
 | [],_,h=>⟨[],h⟩
 | _ :: _,_,h=>let ⟨_,h⟩:=nT h;let ⟨_,h⟩:=tk h;⟨_,h⟩
theorem uU {P:Program}{t:TypeId}{v:Value}{k:Value->Prop} (h:zn P t v k):k v:=by
 unfold zn at h;split at h
 ·obtain ⟨vs,hv,hk⟩:=tk h;rw [hv];exact hk
 ·obtain ⟨x,hv,hk⟩:=nT h;rw [hv];exact hk
theorem qy {H:au}{ad:Addr}:∀ {l:List (Option TypeDesc)}{i:Nat}{k:List Value->List (Addr × Value)->Prop},yu H ad i l k ->
  ∃ vs cs,k vs cs∧vs.length=l.length∧jE cs H∧∀ H',jE cs H'->∀ j v,vs[j]?=some v->aq H' (ad.add (i+j))=some v
 | [],_,_,h=>⟨[],[],h,rfl,trivial,fun _ _ j v hv=>by simp at hv⟩
 | d :: r,i,k,h=>by
  obtain ⟨v,hv,h⟩:=kE h;obtain ⟨vs,cs,hk,hl,hc,b8⟩:=qy h;refine ⟨_,_,hk,by simp [hl],⟨hv,hc⟩,fun H' ⟨h1,h2⟩ j u hu=>?_⟩;cases j with
  | zero=>simp at hu;subst hu;exact h1
  | succ j=>simp at hu;rw [show i+(j+1)=i+1+j by omega];exact b8 H' h2 j u hu
theorem nC (P:Program) (a:Addr) (vs:List Value):∀ (i:Nat) (acc:Array Value) (w:World),
  (∀ j v,vs[j]?=some v->w.cell? (a.add (i+j))=some v)->(loadCellsFrom a i vs.length acc).run P w=.ok (acc++vs.toArray) w:=by
 induction vs with
 | nil=>intro i acc w _;simp [loadCellsFrom]
 | cons v r ih =>
  intro i acc w h;have h0:=h 0 v rfl;simp only [a1b,loadCellsFrom,Sem.run_bind,run_load];rw [show a.add i=a.add (i+0) from rfl,h0];simp only [Result.andThen_ok];rw [ih (i+1) (acc.push v) w (fun j u hu=>by rw [show i+1+j=i+(j+1) by omega];exact h (j+1) u (by simpa using hu))];simp
theorem bH {P:Program}{t:TypeId}{d:TypeDesc} (h:P.underlying t=some d) (w:World):(underlying t).run P w=.ok d w:=by
 simp [underlying,h]
theorem mj {P:Program}{t:TypeId}{i:TypeInfo} (h:P.info? t=some i) (w:World):(typeInfo t).run P w=.ok i w:=by
 simp [typeInfo,h]
theorem dD {P:Program}{t:TypeId}{i:TypeInfo} (h:P.info? t=some i) (w:World):(Go.sizeOf t).run P w=.ok i.size w:=by
 simp [Go.sizeOf,mj h]
theorem lz {P:Program}{t:TypeId}{ad:Addr}{H:au}{k:Value->List (Addr × Value)->Prop} (h:qa P t ad H k) :
  ∃ v cs,k v cs∧jE cs H∧∀ w:World,jE cs w.heap->(loadVar t ad).run P w=.ok v w:=by
 have agg:∀ (d:TypeDesc),P.underlying t=some d->(match d with | .struct _ | .array _ _=>true | _=>false)=true ->
   (match decide ((P.info? t).map (·.size)=some (vC P 20 t).length) with
   | true=>yu H ad 0 (vC P 20 t) fun vs cs=>k (.agg vs.toArray) cs
   | false=>False)->∃ v cs,k v cs∧jE cs H∧∀ w:World,jE cs w.heap->(loadVar t ad).run P w=.ok v w:=by
  intro d hd ZK h;split at h
  ·rename_i hs;have hs:=of_decide_eq_true hs;obtain ⟨i,hi,zw⟩:∃ i,P.info? t=some i∧i.size=(vC P 20 t).length:=by
    cases hi:P.info? t with
    | none=>simp [hi] at hs
    | some i=>simp [hi] at hs;exact ⟨i,rfl,hs⟩
   obtain ⟨vs,cs,hk,hl,hc,b8⟩:=qy h;refine ⟨_,_,hk,hc,fun w hw=>?_⟩;have ZL:(isAgg t).run P w=.ok true w:=by
    simp only [isAgg,Sem.run_bind,bH hd,Result.andThen_ok];cases d <;> simp at ZK <;> rfl
   simp only [loadVar,Sem.run_bind,ZL,Result.andThen_ok,if_true,dD hi,loadCells];rw [zw,←hl,nC P ad vs 0 #[] w (fun j v hv=>b8 w.heap hw j v hv)];simp
  ·exact h.elim
 unfold qa at h;split at h
 ·rename_i fs hd;exact agg _ hd rfl h
 ·rename_i l e hd;exact agg _ hd rfl h
 ·rename_i d ZM ZN;split at h
  ·rename_i d hd;obtain ⟨v,hv,hk⟩:=kE h;refine ⟨v,_,hk,⟨hv,trivial⟩,fun w hw=>?_⟩;have ZL:(isAgg t).run P w=.ok false w:=by
    simp only [isAgg,Sem.run_bind,bH hd,Result.andThen_ok];cases d with
    | struct fs=>exact absurd hd (by simpa using ZM fs)
    | array l e=>exact absurd hd (by simpa using ZN l e)
    | _=>rfl
   have hc:w.cell? ad=some v:=hw.1;simp [loadVar,ZL,hc]
  ·exact h.elim
theorem py {P:Program}{ad:Addr}:∀ {vs:List Value}{i:Nat}{k:au->Prop}{w:World},tN ad i vs k w.heap ->
  ∃ w',(storeCells ad vs i).run P w=.ok () w'∧k w'.heap∧dj w w'
 | [],_,_,w,h=>⟨w,rfl,h,dj.refl w⟩
 | v :: r,i,k,w,h=>by
  simp only [tN] at h;split at h
  ·rename_i h1;obtain ⟨⟨⟨v0,h2⟩,h3⟩,h⟩:=h;obtain ⟨w',hr,hk,hs⟩:=py (P:=P) (w:=w.setCell (ad.add i) v) h;refine ⟨w',?_,hk,(dj.heap (w:=w) (dK.set w.heap (ad.add i) v)).trans hs⟩;have e2:w.cell? (ad.add i)=some v0:=h2;have e3:w.frozen? (ad.add i)=false:=h3;have e1:(store (ad.add i) v).run P w=.ok () (w.setCell (ad.add i) v):=by
    cases v <;> simp only [dJ,a1M] at h1 <;> simp only [store,Sem.run,e2,e3,a1M,if_false]
   simp only [storeCells,Sem.run_bind,e1,Result.andThen_ok];exact hr
  ·exact h.elim
theorem uv {P:Program}{t:TypeId}{ad:Addr}{v:Value}{k:au->Prop}{w:World} (h:tE P t ad v k w.heap) :
  ∃ w',(storeVar t ad v).run P w=.ok () w'∧k w'.heap∧dj w w':=by
 unfold tE at h;split at h
 ·rename_i hs;have hs:=of_decide_eq_true hs;obtain ⟨i,hi,zw⟩:∃ i,P.info? t=some i∧i.size=v.cells.toList.length:=by
   cases hi:P.info? t with
   | none=>simp [hi] at hs
   | some i=>simp [hi] at hs;exact ⟨i,rfl,by simpa using hs⟩
  obtain ⟨w',hr,hk,hw⟩:=py (P:=P) h;refine ⟨w',?_,hk,hw⟩;simp only [storeVar,Sem.run_bind,dD hi,Result.andThen_ok];rw [a0a (by simp [zw])];exact hr
 ·exact h.elim
theorem CZ (P:Program) (m:Sem Value) (w:World):(do pure (Next.value (← m)):Sem Next).run P w=(m.run P w).andThen fun v w'=>.ok (.value v) w':=by
 simp
theorem kV {P:Program}{m:Sem Next}{k:Value->Prop} (h:LB P m (Pd k)):∃ v,k v∧∀ w,m.run P w=.ok (.value v) w:=by
 obtain ⟨nx,h1,h2⟩:=AE P m _ h;cases nx <;> simp only [Pd] at h1;exact ⟨_,h1,h2⟩
theorem jz {P:Program}{e:TypeId} (h:(P.info? e).isSome=true):∃ i,P.info? e=some i∧i.size=li P e:=by
 cases hi:P.info? e with
 | none=>simp [hi] at h
 | some i=>exact ⟨i,rfl,by simp [li,hi]⟩
theorem iB (P:Program) (κ:IntKind) (n:Int) (w:World):(asIntOf (.int κ n)).run P w=.ok (κ,n) w:=rfl
theorem rT {P:Program}{t e:TypeId}{base:Option Addr}{len cap:Nat}{κ:IntKind}{i:Int}{b:Addr} (hu:P.underlying t=some (.slice e)) (he:(P.info? e).isSome=true)
  (hi:0<=i∧i<len) (hb:base=some b) (w:World):(Instr.indexAt t (.slice base len cap) (.int κ i)).run P w=.ok (.pointer (some (b.add (i.toNat*li P e)))) w:=by
 obtain ⟨inf,h1,h2⟩:=jz he;subst hb;simp only [Instr.indexAt,Sem.run_bind,iB,Result.andThen_ok,bH hu,Sem.run_pure,a0b hi,dD h1,h2]
theorem rS {P:Program}{t e:TypeId}{n:Nat}{κ:IntKind}{i:Int}{b:Addr} (hu:P.underlying t=some (.array n e)) (he:(P.info? e).isSome=true)
  (hi:0<=i∧i<(n:Int)) (w:World):(Instr.indexAt t (.pointer (some b)) (.int κ i)).run P w=.ok (.pointer (some (b.add (i.toNat*li P e)))) w:=by
 obtain ⟨inf,h1,h2⟩:=jz he;simp only [Instr.indexAt,Instr.sureAddr,Sem.run_bind,iB,Result.andThen_ok,bH hu,Sem.run_pure,a0b hi,dD h1,h2]
theorem cA (P:Program) (κ:IntKind) (i:Int) (y:Nat) (c:BoundsCode) (h:0<=i∧i<=y) (w:World):(Instr.sliceBound (.int κ i) y c).run P w=.ok i.toNat w:=by
 simp only [Instr.sliceBound,Sem.run_bind,iB,Result.andThen_ok,a0b h,Sem.run_pure]
theorem kD (a:Option Addr):a.map (·.add 0)=a:=by cases a <;> rfl
theorem wR {P:Program}{t e:TypeId}{base:Option Addr}{len cap:Nat}{lo hi:Option Value}{k:Value->Prop} (hu:P.underlying t=some (.slice e)) (he:(P.info? e).isSome=true)
  (h:match lo,hi with
    | none,none=>k (.slice base len cap)
    | none,some (.int _ h)=>(0<=h∧h<=(cap:Int))∧k (.slice base h.toNat cap)
    | some (.int _ l),none=>(0<=l∧l<=(len:Int))∧k (.slice (kN base cap l (li P e)) (len-l.toNat) (cap-l.toNat))
    | some (.int _ l),some (.int _ h)=>((0<=h∧h<=(cap:Int))∧0<=l∧l<=h)∧k (.slice (kN base cap l (li P e)) (h.toNat-l.toNat) (cap-l.toNat))
    | _,_=>False):∃ v,k v∧∀ w,(Instr.slice t (.slice base len cap) lo hi none).run P w=.ok v w:=by
 obtain ⟨inf,h1,h2⟩:=jz he;split at h
 ·refine ⟨_,h,fun w=>?_⟩;simp only [Instr.slice,Instr.sliceBounds,Sem.run_bind,bH hu,Result.andThen_ok,Sem.run_pure,dD h1,Nat.zero_mul,kD,ite_self,a3Z]
 ·refine ⟨_,h.2,fun w=>?_⟩;simp only [Instr.slice,Instr.sliceBounds,Sem.run_bind,bH hu,Result.andThen_ok,Sem.run_pure,dD h1,Nat.zero_mul,kD,ite_self,a3Z,cA _ _ _ _ _ h.1]
 ·refine ⟨_,h.2,fun w=>?_⟩;simp only [Instr.slice,Instr.sliceBounds,Sem.run_bind,bH hu,Result.andThen_ok,Sem.run_pure,dD h1,cA _ _ _ _ _ h.1,kN,h2]
 ·rename_i l _ h';refine ⟨_,h.2,fun w=>?_⟩;have hb:0<=l∧l<=((h'.toNat:Nat):Int):=⟨h.1.2.1,by have:=h.1.1.1;have:=h.1.2.2;omega⟩;simp only [Instr.slice,Instr.sliceBounds,Sem.run_bind,bH hu,Result.andThen_ok,Sem.run_pure,dD h1,cA _ _ _ _ _ h.1.1,cA _ _ _ _ _ hb,kN,h2]
 ·exact h.elim
theorem A1 {P:Program}{t:TypeId}{s:ByteArray}{lo hi:Option Value}{k:Value->Prop} (hu:P.underlying t=some .string)
  (h:match lo,hi with
   | none,none=>k (.string (s.extract 0 s.size))
   | none,some (.int _ h)=>(0<=h∧h<=(s.size:Int))∧k (.string (s.extract 0 h.toNat))
   | some (.int _ l),none=>(0<=l∧l<=(s.size:Int))∧k (.string (s.extract l.toNat s.size))
   | some (.int _ l),some (.int _ h)=>((0<=h∧h<=(s.size:Int))∧0<=l∧l<=h)∧k (.string (s.extract l.toNat h.toNat))
   | _,_=>False):∃ v,k v∧∀ w,(Instr.slice t (.string s) lo hi none).run P w=.ok v w:=by
 split at h
 ·refine ⟨_,h,fun w=>?_⟩;simp only [Instr.slice,Instr.sliceBounds,Sem.run_bind,bH hu,Result.andThen_ok,Sem.run_pure,a3m,a1M,if_false]
 ·refine ⟨_,h.2,fun w=>?_⟩;simp only [Instr.slice,Instr.sliceBounds,Sem.run_bind,bH hu,Result.andThen_ok,Sem.run_pure,cA _ _ _ _ _ h.1,a3m,a1M,if_false]
 ·refine ⟨_,h.2,fun w=>?_⟩;simp only [Instr.slice,Instr.sliceBounds,Sem.run_bind,bH hu,Result.andThen_ok,Sem.run_pure,cA _ _ _ _ _ h.1,a3m,a1M,if_false]
 ·rename_i l _ h';refine ⟨_,h.2,fun w=>?_⟩;have hb:0<=l∧l<=((h'.toNat:Nat):Int):=⟨h.1.2.1,by have:=h.1.1.1;have:=h.1.2.2;omega⟩;simp only [Instr.slice,Instr.sliceBounds,Sem.run_bind,bH hu,Result.andThen_ok,Sem.run_pure,cA _ _ _ _ _ h.1.1,cA _ _ _ _ _ hb,a3m,a1M,if_false]
 ·exact h.elim
def pH:Value->Value->Bool
 | .nilIface,.nilIface | .agg _,.agg _=>false
 | _,_=>true
theorem kR (P:Program) (op:BinOp) (t:TypeId) (x y:Operand) (a b:Value) (h:pH a b=true) (w:World) :
  (eqGuard op t x y a b).run P w=.ok () w:=by
 unfold eqGuard;cases op <;> simp <;> cases a <;> cases b <;> simp [pH] at h ⊢
theorem tR {P:Program}{t e:TypeId} (hu:P.underlying t=some (.pointer e)) (p:Option Addr) (w:World) (d:Nat):(Op.equalIn (d+1) t (.pointer p) (.pointer none)).run P w=.ok p.isNone w:=by
 cases p <;> simp only [Op.equalIn,Sem.run_bind,bH hu,Result.andThen_ok,Sem.run_pure,a0L,a0l]
theorem sv {P:Program}{t e:TypeId} (hu:P.underlying t=some (.pointer e)) (p:Option Addr) (w:World):(Op.equal t (.pointer p) (.pointer none)).run P w=.ok p.isNone w:=tR hu p w 9999
theorem rQ {P:Program}{t e:TypeId} (hu:P.underlying t=some (.slice e)) (p:Option Addr) (l c l' c':Nat) (w:World) (d:Nat):(Op.equalIn (d+1) t (.slice p l c) (.slice none l' c')).run P w=.ok p.isNone w:=by
 cases p <;> simp only [Op.equalIn,Sem.run_bind,bH hu,Result.andThen_ok,Sem.run_pure,a0L,a0l]
theorem rb {P:Program}{t e:TypeId} (hu:P.underlying t=some (.slice e)) (p:Option Addr) (l c l' c':Nat) (w:World):(Op.equal t (.slice p l c) (.slice none l' c')).run P w=.ok p.isNone w:=rQ hu p l c l' c' w 9999
theorem rU {P:Program}{t a b:TypeId} (hu:P.underlying t=some (.map a b)) (p:Option Nat) (w:World) (d:Nat):(Op.equalIn (d+1) t (.map p) (.map none)).run P w=.ok p.isNone w:=by
 cases p <;> simp only [Op.equalIn,Sem.run_bind,bH hu,Result.andThen_ok,Sem.run_pure,a0L,a0l]
theorem ro {P:Program}{t a b:TypeId} (hu:P.underlying t=some (.map a b)) (p:Option Nat) (w:World):(Op.equal t (.map p) (.map none)).run P w=.ok p.isNone w:=rU hu p w 9999
theorem un {P:Program}{dst:Option Tmp}{type t u:TypeId}{pos:String}{after:Array Edge}{guard:Option (Nat × Bool)}{x y:Operand}{ρ:Operand->Value}{b:Bool}{va vb:Value} (hx:ρ x=va) (hy:ρ y=vb)
  (hg:pH va vb=true)
  (hn:Go.binOp .eql t va vb=(do pure (.bool (← Op.equal t va vb)))) (w:World) (h:(Op.equal t va vb).run P w=.ok b w) :
  (execOp ρ ⟨dst,.binOp .eql t x y u,type,pos,after,guard⟩).run P w=.ok (.value (.bool b)) w:=by
 show Sem.run P (do pure (Next.value (← (do eqGuard .eql t x y (ρ x) (ρ y);Go.binOp .eql t (ρ x) (ρ y)))):Sem Next) w=_;rw [hx,hy,hn];simp only [Sem.run_bind,kR _ _ _ _ _ _ _ hg,Result.andThen_ok,h,Sem.run_pure]
theorem uB {P:Program}{dst:Option Tmp}{type t u:TypeId}{pos:String}{after:Array Edge}{guard:Option (Nat × Bool)}{x y:Operand}{ρ:Operand->Value}{b:Bool}{va vb:Value} (hx:ρ x=va) (hy:ρ y=vb)
  (hg:pH va vb=true)
  (hn:Go.binOp .neq t va vb=(do pure (.bool (!(← Op.equal t va vb))))) (w:World) (h:(Op.equal t va vb).run P w=.ok b w) :
  (execOp ρ ⟨dst,.binOp .neq t x y u,type,pos,after,guard⟩).run P w=.ok (.value (.bool (!b))) w:=by
 show Sem.run P (do pure (Next.value (← (do eqGuard .neq t x y (ρ x) (ρ y);Go.binOp .neq t (ρ x) (ρ y)))):Sem Next) w=_;rw [hx,hy,hn];simp only [Sem.run_bind,kR _ _ _ _ _ _ _ hg,Result.andThen_ok,h,Sem.run_pure]
theorem mY {P:Program}{o:Oper}{ρ:Operand->Value}{k:Value->Prop} (h:jk P o ρ k):∃ v,k v∧∀ w,(execOp ρ o).run P w=.ok (.value v) w:=by
 obtain ⟨dst,op,type,pos,after,guard⟩:=o;cases op
 case pick c x y =>
  simp only [jk] at h;split at h
  ·rename_i b hb;cases b
   ·exact ⟨_,h,fun w=>by simp [execOp,hb,asBool]⟩
   ·exact ⟨_,h,fun w=>by simp [execOp,hb,asBool]⟩
  ·exact h.elim
 case nilCheck x =>
  simp only [jk] at h;split at h
  ·rename_i p hp;obtain ⟨ad,rfl,h⟩:=h;exact ⟨_,h,fun w=>by simp [execOp,hp]⟩
  ·exact kV h
 case indexAddr t x i =>
  simp only [jk] at h;split at h
  ·rename_i e base len cap κ i hu hx hi;split at h
   ·rename_i he;obtain ⟨hb,b,V6,h⟩:=h;exact ⟨_,h,fun w=>by simp only [execOp,CZ,hx,hi,rT hu he hb V6,Result.andThen_ok]⟩
   ·exact h.elim
  ·rename_i n e b κ i hu hx hi;split at h
   ·rename_i he;obtain ⟨hb,h⟩:=h;exact ⟨_,h,fun w=>by simp only [execOp,CZ,hx,hi,rS hu he hb,Result.andThen_ok]⟩
   ·exact h.elim
  ·exact h.elim
 case index t x i =>
  simp only [jk] at h;split at h
  ·rename_i s κ i hu hx hi;obtain ⟨b,⟨h0,hb⟩,h⟩:=h;refine ⟨_,h,fun w=>?_⟩;simp only [execOp,hx,hi,Instr.index,Sem.run_bind,iB,Result.andThen_ok,bH hu,a0b h0,hb,Sem.run_pure]
  ·rename_i len e cs κ i hu hx hi;split at h
   ·rename_i h1;obtain ⟨hb,h⟩:=h;obtain ⟨v,hv,h⟩:=ls h;refine ⟨_,h,fun w=>?_⟩;obtain ⟨d,hd,ZK,inf,VM,Sv⟩:∃ d,P.underlying e=some d∧(isAgg e).run P w=.ok false w∧∃ inf,P.info? e=some inf∧inf.size=1:=by
     unfold Qa at h1;split at h1
     ·cases h1
     ·cases h1
     ·cases h1
     ·rename_i d ZM ZN hd;have h1:=of_decide_eq_true h1;refine ⟨d,hd,?_,?_⟩
      ·simp only [isAgg,Sem.run_bind,bH hd,Result.andThen_ok];cases d with
       | struct fs=>exact absurd hd (by simpa using ZM fs)
       | array l e=>exact absurd hd (by simpa using ZN l e)
       | _=>rfl
      ·cases hi:P.info? e with
       | none=>simp [hi] at h1
       | some i=>simp [hi] at h1;exact ⟨i,rfl,h1⟩
    simp only [execOp,hx,hi,Instr.index,Sem.run_bind,iB,Result.andThen_ok,bH hu,a0b hb,dD VM,Sv,a0y,part,ZK,a1M,if_false,hv,Sem.run_pure]
   ·exact kV h
  ·exact h.elim
 case slice t x lo hi mx =>
  cases mx with
  | some m =>
   cases hi with
   | none=>simp only [jk] at h;exact kV h
   | some hi =>
    simp only [jk] at h;split at h
    ·rename_i e base len cap κ h' κ' m' hu hx V7 hm;split at h
     ·rename_i he;obtain ⟨inf,h1,h2⟩:=jz he;split at h
      ·rename_i J5;have hb:0<=h'∧h'<=((m'.toNat:Nat):Int):=⟨h.1.2.1,by have:=h.1.1.1;have:=h.1.2.2;omega⟩;refine ⟨_,h.2,fun w=>?_⟩;simp only [execOp,hx,V7,hm,J5,Instr.sliceAt,Instr.slice,Instr.sliceBounds,Sem.run_bind,bH hu,Result.andThen_ok,a2Q,Sem.run_pure,dD h1,cA _ _ _ _ _ h.1.1,cA _ _ _ _ _ hb,Nat.zero_mul,kD,ite_self,a3Z]
      ·rename_i l J5;have hb:0<=h'∧h'<=((m'.toNat:Nat):Int):=⟨h.1.1.2.1,by have:=h.1.1.1.1;have:=h.1.1.2.2;omega⟩;have k8:0<=l∧l<=((h'.toNat:Nat):Int):=⟨h.1.2.1,by have:=h.1.2.2;have:=h.1.1.2.1;omega⟩;refine ⟨_,h.2,fun w=>?_⟩;simp only [execOp,hx,V7,hm,J5,Instr.sliceAt,Instr.slice,Instr.sliceBounds,Sem.run_bind,bH hu,Result.andThen_ok,a2Q,Sem.run_pure,dD h1,cA _ _ _ _ _ h.1.1.1,cA _ _ _ _ _ hb,cA _ _ _ _ _ k8,kN,h2]
      ·exact h.elim
     ·exact h.elim
    ·exact h.elim
  | none =>
   simp only [jk] at h;split at h
   ·rename_i e base len cap hu hx;split at h
    ·rename_i he;obtain ⟨v,hk,hr⟩:=wR hu he h;refine ⟨v,hk,fun w=>?_⟩;simp only [execOp,hx,Instr.sliceAt,Sem.run_bind,bH hu,Result.andThen_ok,a30,hr,Sem.run_pure]
    ·exact h.elim
   ·rename_i s hu hx;obtain ⟨v,hk,hr⟩:=A1 hu h;refine ⟨v,hk,fun w=>?_⟩;simp only [execOp,hx,Instr.sliceAt,Sem.run_bind,bH hu,Result.andThen_ok,a30,hr,Sem.run_pure]
   ·exact h.elim
 case binOp op t x y u =>
  simp only [jk] at h;split at h
  ·rename_i e p hu hx hy;exact ⟨_,h,fun w=>un hx hy rfl rfl w (sv hu p w)⟩
  ·rename_i e p hu hx hy;exact ⟨_,h,fun w=>uB hx hy rfl rfl w (sv hu p w)⟩
  ·rename_i hu hx hy;exact ⟨_,h,fun w=>un hx hy rfl rfl w (rb hu _ _ _ _ _ w)⟩
  ·rename_i hu hx hy;exact ⟨_,h,fun w=>uB hx hy rfl rfl w (rb hu _ _ _ _ _ w)⟩
  ·rename_i hu hx hy;exact ⟨_,h,fun w=>un hx hy rfl rfl w (ro hu _ w)⟩
  ·rename_i hu hx hy;exact ⟨_,h,fun w=>uB hx hy rfl rfl w (ro hu _ w)⟩
  ·rename_i κ x' κ' y' hx hy;split at h
   ·rename_i hk;have hk:=of_decide_eq_true hk;subst hk;by_cases JQ:y'=0
    ·simp [JQ] at h
    ·simp only [JQ,decide_false,a0f] at h;exact ⟨_,h,fun w=>by simp [execOp,hx,hy,eqGuard,Go.binOp,Op.intDiv,JQ]⟩
   ·exact h.elim
  ·rename_i κ x' κ' y' hx hy;split at h
   ·rename_i hk;have hk:=of_decide_eq_true hk;subst hk;by_cases JQ:y'=0
    ·simp [JQ] at h
    ·simp only [JQ,decide_false,a0f] at h;exact ⟨_,h,fun w=>by simp [execOp,hx,hy,eqGuard,Go.binOp,Op.intDiv,JQ]⟩
   ·exact h.elim
  ·rename_i κ x' κ' y' hx hy;by_cases JQ:y'<0
   ·simp [JQ] at h
   ·simp only [JQ,decide_false,a0f] at h;exact ⟨_,h,fun w=>by simp [execOp,hx,hy,eqGuard,Go.binOp,Op.shift,JQ,fu]⟩
  ·rename_i κ x' κ' y' hx hy;by_cases JQ:y'<0
   ·simp [JQ] at h
   ·simp only [JQ,decide_false,a0f] at h;exact ⟨_,h,fun w=>by simp [execOp,hx,hy,eqGuard,Go.binOp,Op.shift,JQ,iL]⟩
  ·rename_i x' y' hx hy;by_cases JQ:((x'.size+y'.size:Nat):Int) > IntKind.i64.max
   ·simp only [JQ,decide_true,a0P] at h
   ·simp only [JQ,decide_false,a0f] at h;exact ⟨_,h,fun w=>by simp only [execOp,hx,hy,Sem.run_bind,eqGuard,Go.binOp,Op.stringOp];simp only [JQ];simp⟩
  ·exact kV h
 all_goals exact kV h
theorem im {P:Program}{o:Oper}{a:Act}{next:Act->World->Prop}{Q:Exit->Act->World->Prop}{r:Result Next}{v:Value}{w:World} (hr:r=.ok (.value v) w) (h:next (a.put o.dst v) w):o.upon P a next Q r:=by
 subst hr;exact h
theorem sY {P:Program}{o:Oper}{a:Act}{next:Act->World->Prop}{Q:Exit->Act->World->Prop}{r:Result Next}{w:World} (hr:r=.ok .skip w) (h:next (a.put o.dst undef) w):o.upon P a next Q r:=by
 subst hr;exact h
theorem tr {P:Program}{m:Sem Value}{w w':World}{v:Value} (h:m.run P w=.ok v w'):(do pure (Next.value (← m)):Sem Next).run P w=.ok (.value v) w':=by
 simp only [Sem.run_bind,h,Result.andThen_ok,Sem.run_pure]
theorem LM {P:Program}{m:Sem Unit}{w w':World} (h:m.run P w=.ok () w'):(do m;pure Next.skip:Sem Next).run P w=.ok .skip w':=by
 simp only [Sem.run_bind,h,Result.andThen_ok,Sem.run_pure]
theorem dw {P:Program}{o:Oper}{a:Act}{next:Act->World->Prop}{Q:Exit->Act->World->Prop}{m:Sem Value}{k:Value->au->Prop}{w:World}
  (he:execOp a.eval o=(do pure (Next.value (← m)))) (h:cB P m k w.heap) (hk:∀ v w',k v w'.heap->dj w w'->next (a.put o.dst v) w'):o.wp P a w next Q:=by
 obtain ⟨v,w',hr,hq,hs⟩:=oy P m k w h;unfold Oper.wp;rw [he];exact im (tr hr) (hk v w' hq hs)
theorem qD {P:Program}{o:Oper}{a:Act}{next:Act->World->Prop}{Q:Exit->Act->World->Prop}{m:Sem Unit}{k:au->Prop}{w:World}
  (he:execOp a.eval o=(do m;pure Next.skip)) (h:cB P m (fun _=>k) w.heap) (hk:∀ w',k w'.heap->dj w w'->next (a.put o.dst undef) w'):o.wp P a w next Q:=by
 obtain ⟨v,w',hr,hq,hs⟩:=oy P m _ w h;unfold Oper.wp;rw [he];exact sY (LM hr) (hk w' hq hs)
theorem kj {P:Program} (hP:GoodPg P){g:FuncId}{fn:Func} (hf:P.funcs[g]?=some fn) (hb:fn.body.isSome=true) (args:Array Value) (w:World) :
  (callFunc g args).run P w=.ok (.enter g args) w:=by
 have hn : (fn.name == "runtime.NumGoroutine") = false := by
  have:=Array.all_eq_true_iff_forall_mem.1 hP.names fn (Array.mem_of_getElem? hf);simpa using this
 have k9:fn.body.isNone=false:=by cases h:fn.body <;> simp [h] at hb ⊢
 simp only [callFunc,Sem.run_bind,run_program,Result.andThen_ok,hf,hn,k9,a1M,if_false,Sem.run_pure]
theorem qN {P:Program} (hP:GoodPg P){o:Oper}{a:Act}{k:Value->au->Prop}{w:World}{next:Act->World->Prop}{Q:Exit->Act->World->Prop}
  (h:wv P o a.eval k w.heap) (hk:∀ v w',k v w'.heap->dj w w'->next (a.put o.dst v) w'):o.wp P a w next Q:=by
 unfold wv at h;split at h
 ·obtain ⟨v,hv,hr⟩:=mY h;unfold Oper.wp;exact im (hr w) (hk v w hv (dj.refl w))
 ·rename_i T7;clear T7;obtain ⟨dst,op,type,pos,after,guard⟩:=o;have J6:∀ v w',zn P type v (fun x=>k x w'.heap)->dj w w'->next (a.put dst v) w':=fun v w' h hs=>hk v w' (uU h) hs
  cases op <;> simp only [] at h
  case load t x =>
   split at h
   ·rename_i ad hx;obtain ⟨v,cs,hv,hc,hr⟩:=lz h;unfold Oper.wp;refine im (v:=v) (w:=w) ?_ (hk v w hv (dj.refl w));refine tr ?_;simp only [hx,Instr.loadAt,Instr.sureAddr,Sem.run_bind,Sem.run_pure,Result.andThen_ok];exact hr w hc
   ·exact h.elim
  case store t x v =>
   split at h
   ·rename_i ad hx;obtain ⟨w',hr,hq,hs⟩:=uv h;unfold Oper.wp;refine sY (w:=w') ?_ (hk undef w' hq hs);refine LM ?_;simp only [hx,Instr.storeAt,Instr.sureAddr,Sem.run_bind,Sem.run_pure,Result.andThen_ok];exact hr
   ·exact h.elim
  case alloc e =>
   split at h
   ·rename_i z hz;obtain ⟨i,hi,hiz⟩:∃ i,P.info? e=some i∧i.zero=some z:=by
     cases hi:P.info? e with
     | none=>simp [hi] at hz
     | some i=>simp [hi] at hz;exact ⟨i,rfl,hz⟩
    unfold Oper.wp;refine im (v:=.pointer (some ⟨w.heap.size,0,none⟩)) (w:={ w with heap:=w.heap.push (.cells z.cells e) }) ?_ (hk _ _ h (dj.heap (dK.push _ _)));refine tr ?_;simp only [Instr.alloc,zeroValue,Sem.run_bind,mj hi,Result.andThen_ok,hiz,Sem.run_pure,newVar,newRow,run_newObj]
   ·exact h.elim
  case box e x =>
   unfold Oper.wp;refine im (v:=.pointer (some ⟨w.heap.size,0,none⟩)) (w:={ w with heap:=w.heap.push (.cells (a.eval x).cells e) }) ?_ (hk _ _ h (dj.heap (dK.push _ _)));refine tr ?_;simp only [Instr.box,Sem.run_bind,Result.andThen_ok,Sem.run_pure,newVar,newRow,run_newObj]
  case buildSlice t len parts=>exact dw rfl h hk
  case makeMap t r =>
   cases r with
   | some r=>exact h.elim
   | none =>
    unfold Oper.wp;refine im (v:=.map (some w.heap.size)) (w:={ w with heap:=w.heap.push (.map #[] 0) }) ?_ (hk _ _ h (dj.heap (dK.push _ _)));rfl
  case makeSlice t l c=>exact dw rfl h J6
  case lookup t m key ok=>exact dw rfl h J6
  case mapUpdate t m key x=>exact qD rfl h (hk undef)
  case insert t m key x=>exact qD rfl h (hk undef)
  case mapEntry t m key=>exact dw rfl h hk
  case entryStore t m s x=>exact qD rfl h (hk undef)
  case range t x=>exact dw rfl h hk
  case next it s =>
   refine dw rfl h fun v w' hv hs=>?_;rcases hv with ⟨rfl,hv⟩ | ⟨x,y,rfl,hv⟩
   ·exact hk _ w' hv hs
   ·exact hk _ w' hv hs
  case convert src dst x=>exact dw rfl h J6
  case binOp op t x y u=>exact dw rfl h J6
  case call c =>
   obtain ⟨callee,args,argTypes⟩:=c;cases callee <;> simp only [] at h
   case value f =>
    split at h
    ·rename_i g first cap hf
     obtain ⟨⟨fn,hfn,hb⟩,hc⟩:=h;have Ru:(execOp a.eval ⟨dst,.call ⟨.value f,args,argTypes⟩,type,pos,after,guard⟩).run P w=.ok (.enter g ((first++args.map a.eval)++cap)) w:=by
      show Sem.run P (do let d ← resolve a.eval ⟨.value f,args,argTypes⟩ type;invoke d.target d.args) w=_;simp only [resolve,hf,Deferred.ofValue,Sem.run_bind,Sem.run_pure,Result.andThen_ok,invoke];exact kj hP hfn hb _ w
     unfold Oper.wp;rw [Ru,Oper.upon_enter];refine (hc w rfl).mono ?_;rintro e w' ⟨v,rfl,hv,hs⟩;exact J6 v w' hv hs
    ·exact h.elim
   case builtin b =>
    cases b <;> simp only [] at h
    case append=>exact dw rfl h J6
    case copy=>exact dw rfl h J6
    case len=>exact dw rfl h J6
    case unsafeSliceData=>exact dw rfl h J6
    case unsafeString=>exact dw rfl h J6
    case clear=>exact dw rfl h hk
    case delete=>exact dw rfl h hk
    all_goals exact h.elim
  all_goals exact h.elim
abbrev FR (r:Option Nat):Fence:={ fn:=fun _=>True,depth:=none,alive:=false,round:=r }
theorem rh {r:Option Nat}{n:Nat}{P:Program}{f:FuncId}{args:Array Value}{w:World}{R:Ending->World->Prop} (h:Calls P f args w R):CallsIn (FR r) n P f args w R:=by
 cases r with
 | none=>exact callsIn_wide.2 h
 | some l=>exact callsIn_wide (n:=n).2 h
theorem A0 {r:Option Nat}{n:Nat}{P:Program}{row:String}{args:Array Value}{w:World}{R:Value->World->Prop} (h:Rows P row args w R):RowsIn (FR r) n P row args w R:=by
 intro c cs _;obtain ⟨v,w',hr,hs⟩:=h c cs;refine ⟨v,w',hr,?_⟩;cases r with
 | none=>exact stepsIn_wide.2 hs
 | some l=>exact stepsIn_wide.2 hs
theorem xT {r:Option Nat}{n:Nat}{P:Program}{l:Nat}{f:FuncId}{tmps:Array Value}{assign body:Code}{w:World}{R:Ending->World->Prop} (h:RoundIn Fence.wide 0 P l f tmps assign body w R):RoundIn (FR r) n P l f tmps assign body w R:=by
 refine ⟨trivial,fun c cs _=>?_⟩;obtain ⟨e,w',hR,hs⟩:=h.2 c cs (room_wide _);refine ⟨e,w',hR,?_⟩;cases r with
 | none=>exact hs
 | some l=>exact hs
theorem DH {P:Program}{r:Option Nat}{n:Nat}{o:Oper}{a:Act}{next:Act->World->Prop}{Q:Exit->Act->World->Prop}:∀ {res:Result Next},o.upon P a next Q res->o.uponIn (FR r) n P a next Q res:=by
 intro res h;unfold Oper.upon at h;unfold Oper.uponIn;split at h
 ·exact h
 ·exact h
 ·exact h
 ·exact ⟨fun h=>(by cases h),rh h⟩
 ·exact ⟨fun h=>(by cases h),A0 h⟩
 ·exact h
 ·exact h.elim
theorem Qr {P:Program}{r:Option Nat}{n:Nat}{o:Oper}{a:Act}{w:World}{next:Act->World->Prop}{Q:Exit->Act->World->Prop} (hd:∀ c,o.op≠.defer c) (h:o.wp P a w next Q):o.wpIn (FR r) n P a w next Q:=by
 refine ⟨fun _ _=>trivial,?_⟩;rw [Oper.semAt_eq _ _ _ hd];exact DH h
abbrev Act.re (a:Act) (dr:List Deferred):Act:=⟨a.tmps,dr⟩
theorem iT (a:Act) (dr:List Deferred):(Act.re a dr).eval=a.eval:=by
 funext x;cases x <;> rfl
theorem mE (a:Act) (dr:List Deferred) (d:Option Tmp) (v:Value):(Act.re a dr).put d v=Act.re (a.put d v) dr:=by
 cases d <;> rfl
inductive MixD (n:Nat) (H:au):List Deferred->List Deferred->List Nat->Prop
 | nil:MixD n H [] [] []
 | mark {D:Nat}{dr da:List Deferred}{l:List Nat}:H[D]?=some (.deferred (some []))->n<=D->D∉l->MixD n H dr da l->MixD n H (⟨.collected D,#[]⟩ :: dr) da (D :: l)
 | call {d:Deferred}{dr da:List Deferred}{l:List Nat}:MixD n H dr da l->MixD n H (d :: dr) (d :: da) l
theorem MixD.keep {n:Nat}{H H':au}{dr da:List Deferred}{l:List Nat} (h:MixD n H dr da l) (hk:dK H H'):MixD n H' dr da l:=by
 induction h with
 | nil=>exact .nil
 | mark h1 h2 h3 _ ih=>exact .mark (hk.2 _ _ h1) h2 h3 ih
 | call _ ih=>exact .call ih
theorem MixD.lt {n:Nat}{H:au}{dr da:List Deferred}{l:List Nat} (h:MixD n H dr da l):∀ D∈l,n<=D∧H[D]?=some (.deferred (some [])):=by
 induction h with
 | nil=>simp
 | mark h1 h2 h3 _ ih =>
  intro D hD;rcases a0E.1 hD with rfl | hD
  ·exact ⟨h2,h1⟩
  ·exact ih D hD
 | call _ ih=>exact ih
def cO (ws:List Nat) (nd:Bool) (a a':Act):Prop:=a'.tmps.size=a.tmps.size∧(nd=true->a'.defers=a.defers)∧∀ i,i∉ws->a'.tmps[i]?=a.tmps[i]?
theorem cO.refl (ws:List Nat) (nd:Bool) (a:Act):cO ws nd a a:=⟨rfl,fun _=>rfl,fun _ _=>rfl⟩
theorem cO.trans {ws:List Nat}{nd:Bool}{a a' a'':Act} (h:cO ws nd a a') (h':cO ws nd a' a''):cO ws nd a a'' :=
 ⟨h'.1.trans h.1,fun hn=>(h'.2.1 hn).trans (h.2.1 hn),fun i hi=>(h'.2.2 i hi).trans (h.2.2 i hi)⟩
theorem cO.mono {ws ws':List Nat}{nd nd':Bool}{a a':Act} (h:cO ws nd a a') (hs:∀ i∈ws,i∈ws') (hn:nd'=true->nd=true):cO ws' nd' a a' :=
 ⟨h.1,fun h1=>h.2.1 (hn h1),fun i hi=>h.2.2 i fun hm=>hi (hs i hm)⟩
theorem cO.put {ws:List Nat}{nd:Bool}{a:Act}{dst:Option Tmp}{v:Value} (h:∀ d,dst=some d->d∈ws):cO ws nd a (a.put dst v):=by
 cases dst with
 | none=>exact cO.refl ws nd a
 | some d =>
  refine ⟨by simp [Act.put],fun _=>rfl,fun i hi=>?_⟩
  have:d≠i:=fun e=>hi (e ▸ h d rfl);simp [Act.put,a1Z this]
theorem jS {a:Act}{d:Nat}{v:Value} (h:a.tmps[d]?=some v):a.put (some d) v=a:=by
 obtain ⟨tmps,defers⟩:=a;simp only [Act.put] at h ⊢
 congr 1
 obtain ⟨hd,hv⟩:=a1j.1 h;apply a4C (by simp);intro i h1 h2;rw [Array.getElem_setIfInBounds (by simpa using h2)];split
 ·rename_i e;subst e;exact hv.symm
 ·rfl
theorem kA {ops:Array Oper}{o:Oper}{a:Act}{yes no:Act->Prop} (h:nO ops o a yes no) :
  (Region.wanted o (yielded ops a.tmps)=true∧yes a)∨(Region.wanted o (yielded ops a.tmps)=false∧no a):=by
 unfold nO at h;unfold Region.wanted;split at h
 ·rename_i hg;rw [hg];exact .inl ⟨rfl,h⟩
 ·rename_i j want hg;rw [hg];dsimp only;split at h
  ·rename_i hd;refine .inr ⟨?_,h⟩;simp [yielded,hd]
  ·rename_i d hd;have hy:yielded ops a.tmps j=match a.tmps[d]? with | some (.bool b)=>some b | _=>none:=by
    unfold yielded;rw [hd];rfl
   split at h
   ·rename_i b hb;rw [hy,hb];cases b
    ·rw [a0f] at h;cases want
     ·exact .inl ⟨rfl,by simpa only [jS hb] using h⟩
     ·exact .inr ⟨rfl,by simpa only [jS hb] using h⟩
    ·rw [a0P] at h;cases want
     ·exact .inr ⟨rfl,by simpa only [jS hb] using h⟩
     ·exact .inl ⟨rfl,by simpa only [jS hb] using h⟩
   ·rename_i hb;rw [hy,hb];exact .inr ⟨rfl,h⟩
   ·rename_i hb;rw [hy,hb];exact .inr ⟨rfl,h⟩
   ·exact h.elim
theorem jn (a:Act) (d:Option Tmp) (v:Value):(a.put d v).defers=a.defers:=by cases d <;> rfl
theorem rW {P:Program}{o:Oper}{ρ:Operand->Value}{k:Value->au->Prop}{H:au} (h:wv P o ρ k H):∀ c,o.op≠.defer c:=by
 intro c hc;obtain ⟨dst,op,type,pos,after,guard⟩:=o;simp only at hc;subst hc;exact h
theorem sX {P:Program}{t:Option TypeId}{k:Value->Prop} (h:LY P t k):∃ v,k v:=by
 cases t with
 | none=>exact h
 | some t=>exact nT h
theorem uC {P:Program} (hP:GoodPg P){r:Option Nat}{n:Nat}{ops:Array Oper}{o:Oper}{a:Act}{dr:List Deferred}{l:List Nat}{m:Nat}{k:Act->au->Prop}{w:World}{next:Act->World->Prop}{Q:Exit->Act->World->Prop}{ws:List Nat}
  (hd:∀ d,o.dst=some d->d∈ws) (hr:r=none∨gA o=false) (hm:MixD m w.heap dr a.defers l) (h:xn P ops o a k w.heap)
  (hk:∀ a' dr' w',k a' w'.heap->dj w w'->cO ws (!gA o) a a'->MixD m w'.heap dr' a'.defers l->next (Act.re a' dr') w'):o.wpIn (FR r) n P (Act.re a dr) w next Q:=by
 have plain:wv P o a.eval (fun v H'=>k (a.put o.dst v) H') w.heap->o.wpIn (FR r) n P (Act.re a dr) w next Q:=by
  intro h;refine Qr (rW h) (qN hP (a:=Act.re a dr) (by rw [iT];exact h) fun v w' hv hs=>?_);rw [mE];exact hk _ dr w' hv hs (cO.put hd) (by rw [jn];exact hm.keep hs.2.2.2.2)
 unfold xn at h;split at h
 ·rename_i c JV;split at h
  ·rename_i f hf;split at h
   ·rename_i g first cap ZO
    have V8:r=none:=hr.resolve_right (by simp [gA,JV]);subst V8;refine ⟨fun _ _=>trivial,?_⟩;have Ru:(o.semAt none (Act.re a dr).eval).run P w=.ok (.defer ⟨.fn (.func g) cap,first++c.args.map a.eval⟩) w:=by
     rw [Oper.semAt_none,iT];obtain ⟨dst,op,type,pos,after,guard⟩:=o;simp only at JV;subst JV;obtain ⟨callee,args,argTypes⟩:=c;simp only at hf;subst hf;simp only [execOp,resolve,ZO,Deferred.ofValue,Sem.run_bind,Sem.run_pure,Result.andThen_ok]
    show o.uponIn (FR none) n P (Act.re a dr) next Q ((o.semAt none (Act.re a dr).eval).run P w)
    rw [Ru,Oper.uponIn_defer];have e:({ Act.re a dr with defers:=⟨.fn (.func g) cap,first++c.args.map a.eval⟩ :: dr }:Act).put o.dst undef=Act.re (({ a with defers:=⟨.fn (.func g) cap,first++c.args.map a.eval⟩ :: a.defers }:Act).put o.dst undef) (⟨.fn (.func g) cap,first++c.args.map a.eval⟩ :: dr):=by
     cases o.dst <;> rfl
    show next (({ Act.re a dr with defers:=⟨.fn (.func g) cap,first++c.args.map a.eval⟩ :: dr }:Act).put o.dst undef) w
    rw [e];refine hk _ _ w h (dj.refl w) ?_ (by rw [jn];exact hm.call);have JC:cO ws true ({ a with defers:=⟨.fn (.func g) cap,first++c.args.map a.eval⟩ :: a.defers }:Act) (({ a with defers:=⟨.fn (.func g) cap,first++c.args.map a.eval⟩ :: a.defers }:Act).put o.dst undef):=cO.put hd;exact ⟨JC.1,fun hn=>by simp [gA,JV] at hn,JC.2.2⟩
   ·exact h.elim
  ·exact h.elim
 ·rename_i it JV;obtain ⟨v,w',X2,hq,hs⟩:=oy P _ _ w h;obtain ⟨x,Jf⟩:=sX hq;obtain ⟨y,he,AT⟩:=sX Jf;subst he;refine ⟨fun _ _=>trivial,?_⟩;have Ru:(o.semAt r (Act.re a dr).eval).run P w=.ok (.value (.tuple #[x,y])) w':=by
   rw [Oper.semAt_eq _ _ _ (by rw [JV];simp),iT];obtain ⟨dst,op,type,pos,after,guard⟩:=o;simp only at JV;subst JV;exact tr X2
  show o.uponIn (FR r) n P (Act.re a dr) next Q ((o.semAt r (Act.re a dr).eval).run P w)
  rw [Ru,Oper.uponIn_value,mE];exact hk _ dr w' AT hs (cO.put hd) (by rw [jn];exact hm.keep hs.2.2.2.2)
 ·rename_i c JV;split at h
  ·rename_i f hf;split at h
   ·rename_i l' first cap ZO
    obtain ⟨fn,tmps,assign,body,hy,hR⟩:=h w rfl;refine ⟨fun _ _=>trivial,?_⟩;have Ru:(o.semAt r (Act.re a dr).eval).run P w=.ok (.round l' fn tmps assign body) w:=by
     rw [Oper.semAt_eq _ _ _ (by rw [JV];simp),iT];obtain ⟨dst,op,type,pos,after,guard⟩:=o;simp only at JV;subst JV;obtain ⟨callee,args,argTypes⟩:=c;simp only at hf;subst hf;simp only [execOp,resolve,ZO,Deferred.ofValue,Sem.run_bind,Sem.run_pure,Result.andThen_ok,invoke];exact hy
    show o.uponIn (FR r) n P (Act.re a dr) next Q ((o.semAt r (Act.re a dr).eval).run P w)
    rw [Ru,Oper.uponIn_round];refine ⟨fun h=>(by cases h),(xT hR).mono ?_⟩;rintro e w' ⟨v,rfl,hv,hs⟩;show next ((Act.re a dr).put o.dst v) w'
    rw [mE];exact hk _ dr w' (uU hv) hs (cO.put hd) (by rw [jn];exact hm.keep hs.2.2.2.2)
   ·exact plain h
  ·exact plain h
 ·exact plain h
theorem lC {P:Program} (hP:GoodPg P){r:Option Nat}{n:Nat}{ops:Array Oper}{Q:Act->au->Prop}{Q':Exit->Act->World->Prop}{ws:List Nat}{l:List Nat}{m:Nat}:∀ (os:List Oper) (a:Act) (dr:List Deferred) (w:World),
  (∀ o∈os,∀ d,o.dst=some d->d∈ws)->(r=none∨os.all (fun o=>!gA o)=true)->MixD m w.heap dr a.defers l->yA P ops Q os a w.heap ->
  (∀ a' dr' w',Q a' w'.heap->dj w w'->cO ws (os.all fun o=>!gA o) a a'->MixD m w'.heap dr' a'.defers l->Q' .normal (Act.re a' dr') w')->wpListIn (FR r) n P ops Q' os (Act.re a dr) w
 | [],a,dr,w,_,_,hm,h,hk=>hk a dr w h (dj.refl w) (cO.refl ws _ a) hm
 | o :: rest,a,dr,w,hd,hr,hm,h,hk=>by
  have hd':∀ d,o.dst=some d->d∈ws:=hd o (by simp);have TA:∀ o∈rest,∀ d,o.dst=some d->d∈ws:=fun o ho=>hd o (by simp [ho]);have OP:r=none∨gA o=false:=hr.imp id fun h=>by simpa using (a2N.1 h) o (by simp)
  have Sw:r=none∨rest.all (fun o=>!gA o)=true:=hr.imp id fun h=>by rw [a4k,a2b] at h;exact h.2
  have JC:∀ {b:Bool}{x y:Act},cO ws b x y->((o :: rest).all (fun o=>!gA o)=true->b=true)->cO ws ((o :: rest).all fun o=>!gA o) x y:=fun h hb=>h.mono (fun _ hi=>hi) hb;unfold wpListIn;rcases kA h with ⟨hw,hy⟩ | ⟨hw,hn⟩
  ·rw [a0b hw];refine uC hP hd' OP hm hy fun a1 dr1 w' hv hs VN CO=>?_;refine lC hP rest a1 dr1 w' TA Sw CO hv fun a' dr' w'' hq Ol uD OC=>hk a' dr' w'' hq (hs.trans Ol) ((JC VN fun h=>?_).trans (JC uD fun h=>?_)) OC
   ·rw [a4k,a2b] at h;exact h.1
   ·rw [a4k,a2b] at h;exact h.2
  ·rw [a0a (by simp [hw])];refine ⟨fun _ _=>trivial,?_⟩;rw [mE];refine lC hP rest (a.put o.dst undef) dr w TA Sw (by rw [jn];exact hm) hn fun a' dr' w'' hq Ol uD OC=>hk a' dr' w'' hq Ol ((cO.put hd').trans (JC uD fun h=>?_)) OC;rw [a4k,a2b] at h;exact h.2
section
variable {P:Program}{ops:Array Oper}{Q:Exit->Act->World->Prop}
abbrev md:Region.Mode:=.any
inductive Path (ops:Array Oper):Nat->Nat->Prop where
 | one {i j:Nat} (h:j∈nu ops i):Path ops i j
 | more {i j k:Nat} (h:j∈nu ops i) (h':Path ops j k):Path ops i k
theorem Path.snoc {i j k:Nat} (h:Path ops i j) (h':k∈nu ops j):Path ops i k:=by
 induction h with
 | one h=>exact .more h (.one h')
 | more h _ ih=>exact .more h (ih h')
theorem qU {i:Nat}:∀ (p:Nat) (acc:List Nat),(∀ x∈acc,Path ops i x)->∀ x∈yW ops p acc,Path ops i x
 | 0,_,h=>h
 | p+1,acc,h=>by
  unfold yW;refine qU p _ ?_;split
  ·rename_i hp;intro x hx;rcases a0T.1 hx with hx | hx
   ·exact (h p (by simpa using hp)).snoc hx
   ·exact h x hx
  ·exact h
theorem CG {i x:Nat} (h:x∈PX ops i):Path ops i x:=qU i _ (fun _ hx=>.one hx) x h
def oK (ops:Array Oper) (listed:Array Bool):Prop:=∀ l,listed.getD l false=true->∀ p∈nu ops l,listed.getD p false=true
theorem nU {j:Nat}{listed:Array Bool} (hj:j∈Region.ready md ops listed):∀ p∈nu ops j,listed.getD p false=true:=by
 obtain ⟨_,o,ho,b8⟩:=mem_ready.1 hj;intro p hp;simp only [nu,ho,a1n,a2l] at hp;obtain ⟨e,⟨he,hb⟩,rfl⟩:=hp;exact b8 e (by simpa using he) hb
theorem wz {listed:Array Bool} (hc:oK ops listed){i j:Nat} (h:Path ops i j):(∀ p∈nu ops i,listed.getD p false=true)->listed.getD j false=true:=by
 induction h with
 | one h=>exact fun hi=>hi _ h
 | more h _ ih=>exact fun hi=>ih (hc _ (hi _ h))
theorem oK.step {listed:Array Bool} (hc:oK ops listed){j:Nat} (hj:j∈Region.ready md ops listed):oK ops (listed.setIfInBounds j true):=by
 intro l hl p hp;by_cases h:j=l
 ·subst h;exact getD_set_true (nU hj p hp)
 ·rw [getD_set_ne false h] at hl;exact getD_set_true (hc l hl p hp)
abbrev Ob:=List (Nat × (World->Prop))
def fx (ops:Array Oper) (O:Ob) (i:Nat):Ob:=O.filter fun p=>!(PX ops i).contains p.1
def Qs (O:Ob) (w:World):Prop:=∀ p∈O,p.2 w
theorem jw {O:Ob}{i:Nat}:∀ p∈fx ops O i,p∈O:=fun _ hp=>(a2l.1 hp).1
def ie (P:Program) (ops:Array Oper) (Q:Exit->Act->World->Prop):Nat->Ob->Array Bool->Act->World->Prop
 | 0,_,listed,a,w=>Region.ready md ops listed=[]∧Q .normal a w
 | fuel+1,O,listed,a,w =>
  (Region.ready md ops listed=[]->Q .normal a w) ∧
  ∀ i∈Region.ready md ops listed,wpOp P ops Q i (fun a' w'=>Qs (fx ops O i) w'∧ie P ops Q fuel (fx ops O i) (listed.setIfInBounds i true) a' w') a w
theorem qP:∀ (fuel:Nat) (O:Ob) (listed:Array Bool) (a:Act) (w:World),ie P ops Q fuel O listed a w->wpAny P md ops Q fuel listed a w
 | 0,_,_,_,_,h=>h
 | fuel+1,_,_,_,_,h=>⟨h.1,fun i hi=>wpOp_mono (fun a' w' h'=>qP fuel _ _ a' w' h'.2) (h.2 i hi)⟩
theorem lA:∀ (fuel:Nat) (O O':Ob) (listed:Array Bool) (a:Act) (w:World),(∀ p∈O',p∈O)->ie P ops Q fuel O listed a w->ie P ops Q fuel O' listed a w
 | 0,_,_,_,_,_,_,h=>h
 | fuel+1,O,O',listed,a,w,hs,h=>by
  have Ol:∀ i,∀ p∈fx ops O' i,p∈fx ops O i:=fun i p hp=>by
   obtain ⟨h1,h2⟩:=a2l.1 hp;exact a2l.2 ⟨hs p h1,h2⟩
  exact ⟨h.1,fun i hi=>wpOp_mono (fun a' w' h'=>⟨fun p hp=>h'.1 p (Ol i p hp),lA fuel _ _ _ a' w' (Ol i) h'.2⟩) (h.2 i hi)⟩
theorem uE {i:Nat}{oi:Oper}{v:Value}{S:World->Prop} (hi:ops[i]?=some oi) (Ot:∀ (j:Nat) (o:Oper) cs b,ops[j]?=some o->o.op≠.select cs b)
  (hQ:∀ c a w,Q (.panic c) (a.put oi.dst v) w->Q (.panic c) a w) :
  ∀ (fuel:Nat) (O:Ob) (listed:Array Bool) (a:Act) (w:World),
   (∀ j oj,ops[j]?=some oj->j≠i->listed.getD j true=false->(∀ e∈oj.after,Region.binds md e=true->e.on≠i)->oi.apart ops oj=true) ->
   oK ops listed->i∈Region.ready md ops listed->YieldsIf P ops S oi v a->S w->Qs O w ->
   ie P ops Q fuel ((i,S) :: O) (listed.setIfInBounds i true) (a.put oi.dst v) w->ie P ops Q (fuel+1) O listed a w:=by
 intro fuel
 induction fuel with
 | zero =>
  intro O listed a w _ _ hr hy hS hO H;refine ⟨fun h=>(by rw [h] at hr;cases hr),fun j hj=>?_⟩;by_cases JW:j=i
  ·subst JW;exact hy.wpOp hi hS ⟨fun p hp=>hO p (jw p hp),H⟩
  ·have:=ready_mono hj JW;rw [H.1] at this;cases this
 | succ fuel ih =>
  intro O listed a w RT D7 hr hy hS hO H;refine ⟨fun h=>(by rw [h] at hr;cases hr),fun j hj=>?_⟩;by_cases JW:j=i
  ·subst JW;exact hy.wpOp hi hS ⟨fun p hp=>hO p (jw p hp),lA _ _ _ _ _ _ (fun p hp=>a2F _ (jw p hp)) H⟩
  ·have h1:=H.2 j (ready_mono hj JW);obtain ⟨V9,oj,ZP,b8⟩:=mem_ready.1 hj;have Wa:listed.getD i false=false:=by
    have h0:=(mem_ready.1 hr).1;rcases a2t i listed.size with h' | h'
    ·simp [h'] at h0 ⊢;exact h0
    ·simp [a2u h']
   have ZQ:∀ e∈oj.after,Region.binds md e=true->e.on≠i:=fun e he hb heq=>by
    have h1:=b8 e he hb;rw [heq,Wa] at h1;cases h1
   have Wb:(PX ops j).contains i=false:=by
    cases hc:(PX ops j).contains i with
    | false=>rfl
    | true =>
     have:=wz D7 (CG (by simpa using hc)) (nU hj);rw [Wa] at this;cases this
   have TA:fx ops ((i,S) :: O) j=(i,S) :: fx ops O j:=by
    unfold fx;rw [List.filter_cons_of_pos (by simpa using Wb)]
   rw [TA] at h1;have h2:=wpOp_putIf ZP (RT j oj ZP JW V9 ZQ) (fun cs b=>Ot i oi cs b hi) (fun cs b=>Ot j oj cs b ZP) hQ hy h1;have UL:∀ k ok,ops[k]?=some ok->k≠i->(listed.setIfInBounds j true).getD k true=false ->
     (∀ e∈ok.after,Region.binds md e=true->e.on≠i)->oi.apart ops ok=true:=fun k ok hk hki ZR Db=>by
    refine RT k ok hk hki ?_ Db;by_cases T8:j=k
    ·subst T8;exact V9
    ·rw [getD_set_ne true T8] at ZR;exact ZR
   refine wpOp_mono (fun a' w' h3=>?_) h2;have OQ:Qs (fx ops O j) w':=fun p hp=>h3.2.1 p (a2F _ hp);refine ⟨OQ,ih (fx ops O j) (listed.setIfInBounds j true) a' w' UL (D7.step hj) (ready_mono hr (a3t JW)) h3.1 (h3.2.1 (i,S) (by simp)) OQ ?_⟩;rw [Array.setIfInBounds_comm _ _ JW];exact h3.2.2
def xR (held:List (Nat × List (Addr × Value))):Ob:=held.map fun h=>(h.1,fun w=>jE h.2 w.heap)
theorem uT (held:List (Nat × List (Addr × Value))) (i:Nat):fx ops (xR held) i=xR (oN ops i held):=by
 unfold fx xR oN;rw [List.filter_map];rfl
theorem nV {held:List (Nat × List (Addr × Value))}{w:World}:Holds held w.heap↔Qs (xR held) w:=by
 induction held with
 | nil=>exact ⟨fun _ p hp=>by simp [xR] at hp,fun _=>trivial⟩
 | cons h r ih =>
  obtain ⟨i,l⟩:=h;constructor
  ·rintro ⟨h1,h2⟩ p hp;rcases a0E.1 hp with rfl | hp
   ·exact h1
   ·exact ih.1 h2 p hp
  ·intro h;exact ⟨h _ (a4g ..),ih.2 fun p hp=>h p (a2F _ hp)⟩
theorem qu:∀ {l:List Nat}{p:Nat->Prop},yg l p->∀ i∈l,p i
 | [],_,_,_,hi=>by simp at hi
 | [i],_,h,j,hj=>by simp at hj;subst hj;exact h
 | i :: k :: r,_,h,j,hj=>by
  rcases a0E.1 hj with rfl | hj
  ·exact h.1
  ·exact qu h.2 j hj
theorem yv {P:Program}{ops:Array Oper}{Q':Exit->Act->World->Prop}{i:Nat}:∀ (n:Nat) (O:Ob) (listed:Array Bool) (a:Act) (w:World),ie P ops Q' n O listed a w->ie P ops Q' n ((i,fun _=>True) :: O) listed a w
 | 0,_,_,_,_,h=>h
 | n+1,O,listed,a,w,h=>by
  refine ⟨h.1,fun j hj=>wpOp_mono (fun a' w' h'=>?_) (h.2 j hj)⟩;have ff:∀ p∈fx ops ((i,fun _=>True) :: O) j,p∈(i,fun _=>True) :: fx ops O j:=fun p hp=>by
   obtain ⟨h1,h2⟩:=a2l.1 hp;rcases a0E.1 h1 with rfl | h1
   ·exact a4g ..
   ·exact a2F _ (a2l.2 ⟨h1,h2⟩)
  refine ⟨fun p hp=>?_,lA _ _ _ _ _ _ ff (yv n _ _ a' w' h'.2)⟩;rcases a0E.1 (ff p hp) with rfl | hp
  ·trivial
  ·exact h'.1 p hp
theorem gr {P:Program} (hP:GoodPg P){ops:Array Oper}{Q:Act->au->Prop}{Q':Exit->Act->World->Prop}{ws:List Nat} (Do:∀ (i:Nat) (o:Oper),ops[i]?=some o->∀ d,o.dst=some d->d∈ws)
  (Ot:Region.noSelect ops=true){dr:List Deferred} (hQ:∀ c a w,¬ Q' (.panic c) a w):∀ (n:Nat) (listed:Array Bool) (held:List (Nat × List (Addr × Value))) (a:Act) (w:World),
  oK ops listed->Holds held w.heap->je P ops Q n listed held a w.heap->(∀ a' w',Q a' w'.heap->dj w w'->cO ws true a a'->Q' .normal (Act.re a' dr) w')->ie P ops Q' n (xR held) listed (Act.re a dr) w
 | 0,listed,held,a,w,_,_,h,hk=>by
  simp only [je] at h;split at h
  ·rename_i hr;exact ⟨by simpa using hr,hk a w h (dj.refl w) (cO.refl ws true a)⟩
  ·exact h.elim
 | n+1,listed,held,a,w,D7,RU,h,hk=>by
  simp only [je] at h;split at h
  ·rename_i i hq;split at h
   ·rename_i o RT ho;have hd:∀ d,o.dst=some d->d∈ws:=Do i o ho;have ZS:i∈Region.ready md ops listed:=List.mem_of_find?_eq_some hq;have take:∀ (v:Value) (S:World->Prop) (JX:List (Nat × List (Addr × Value))),(∀ p∈xR JX,p∈(i,S) :: xR held)->ie P ops Q' n ((i,S) :: xR held) (listed.setIfInBounds i true) (Act.re (a.put o.dst v) dr) w->YieldsIf P ops S o v (Act.re a dr)->S w->ie P ops Q' (n+1) (xR held) listed (Act.re a dr) w :=
     fun v S JX _ H hy hS=>uE ho (Region.noSelect_spec Ot) (fun c a w h=>(hQ c _ w h).elim) n (xR held) listed (Act.re a dr) w (Region.free_spec ho RT) D7 ZS hy hS (nV.1 RU) (by rw [mE];exact H)
    have rest:∀ (v:Value) (JX:List (Nat × List (Addr × Value))),Holds JX w.heap->je P ops Q n (listed.setIfInBounds i true) JX (a.put o.dst v) w.heap->ie P ops Q' n (xR JX) (listed.setIfInBounds i true) (Act.re (a.put o.dst v) dr) w :=
     fun v JX hh hv=>gr hP Do Ot hQ n _ JX _ w (D7.step ZS) hh hv fun a' w'' hq hs uD=>hk a' w'' hq hs ((cO.put hd).trans uD)
    have plain:∀ (v:Value),YieldsIf P ops (fun _=>True) o v (Act.re a dr)->je P ops Q n (listed.setIfInBounds i true) held (a.put o.dst v) w.heap->ie P ops Q' (n+1) (xR held) listed (Act.re a dr) w:=by
     intro v hy hv;refine take v (fun _=>True) ((i,[]) :: held) (fun p hp=>?_) ?_ hy trivial
     ·rcases a0E.1 hp with rfl | hp
      ·exact a4g ..
      ·exact a2F _ hp
     ·have:=gr hP Do Ot hQ n (listed.setIfInBounds i true) held (a.put o.dst v) w (D7.step ZS) RU hv fun a' w'' hq hs uD=>hk a' w'' hq hs ((cO.put hd).trans uD);exact yv n (xR held) (listed.setIfInBounds i true) _ w this
    rcases kA h with ⟨hw,hy⟩ | ⟨hw,hn⟩
    ·split at hy
     ·obtain ⟨v,hv,hr⟩:=mY hy;exact plain v (.inl ⟨hw,fun w _=>by rw [iT];exact hr w⟩) hv
     ·rename_i T7;split at hy
      ·rename_i t x JV;split at hy
       ·rename_i ad hx;obtain ⟨v,cs,hv,hc,hr⟩:=lz hy;refine take v (fun w=>jE cs w.heap) ((i,cs) :: held) (fun p hp=>hp) (rest v ((i,cs) :: held) ⟨hc,RU⟩ hv) (.inl ⟨hw,fun w' I5=>?_⟩) hc;obtain ⟨dst,op,type,pos,after,guard⟩:=o;simp only at JV;subst JV;refine tr ?_;simp only [iT,hx,Instr.loadAt,Instr.sureAddr,Sem.run_bind,Sem.run_pure,Result.andThen_ok];exact hr w' I5
       ·exact hy.elim
      ·exact hy.elim
    ·exact plain undef (.inr ⟨hw,rfl⟩) hn
   ·exact h.elim
  ·split at h
   ·rename_i hr;refine ⟨fun _=>hk a w h (dj.refl w) (cO.refl ws true a),fun i hi=>?_⟩;rw [show Region.ready md ops listed=[] from hr] at hi;cases hi
   ·rename_i ic;refine ⟨fun hr=>absurd hr ic,fun i hi=>?_⟩;have hi':=qu h i hi;have Wc:=D7.step hi;split at hi'
    ·rename_i o ho;have hd:∀ d,o.dst=some d->d∈ws:=Do i o ho;rw [uT];unfold wpOp;simp only [ho];rcases kA hi' with ⟨hw,hy⟩ | ⟨hw,hn⟩
     ·rw [a0b hw];refine .inl (qN hP (a:=Act.re a dr) (by rw [iT];exact hy) fun v w' hv hs=>?_);rw [mE];exact ⟨nV.1 hv.1,gr hP Do Ot hQ n _ _ _ w' Wc hv.1 hv.2 fun a' w'' hq Ol uD=>hk a' w'' hq (hs.trans Ol) ((cO.put hd).trans uD)⟩
     ·rw [a0a (by simp [hw])];have hh:Holds (oN ops i held) w.heap:=nV.2 fun p hp=>nV.1 RU p (by rw [←uT] at hp;exact jw p hp);rw [mE];exact ⟨nV.1 hh,gr hP Do Ot hQ n _ _ _ w Wc hh hn fun a' w'' hq Ol uD=>hk a' w'' hq Ol ((cO.put hd).trans uD)⟩
    ·exact hi'.elim
end
def Gc:Exit->Prop
 | .panic _ | .outgrown=>False
 | _=>True
def Nj (Q:qx) (c:Code) (m:Nat) (a:Act) (l:List Nat) (w:World):Exit->Act->World->Prop:=fun e ar w' =>
 Gc e∧∃ a' l',ar=Act.re a' ar.defers∧Q e a' w'.heap∧dj w w'∧cO (eO c) (cu c) a a'∧MixD m w'.heap ar.defers a'.defers l'∧(de c=true->l'=l)
theorem Act.ext' {a b:Act} (h1:a.tmps=b.tmps) (h2:a.defers=b.defers):a=b:=by
 cases a;cases b;simp only at h1 h2;subst h1;subst h2;rfl
theorem uu {a:Act}{i:Nat} (h:i<a.tmps.size):a.tmps[i]?=some (a.tmps.getD i undef):=by
 simp [h]
theorem oS {ws:List Nat}{a':Act}:∀ (l:List Nat) (b:Act),(∀ i∈l,i∈ws)->cO ws true a' b ->
  cO ws true a' (uG b l fun i=>a'.tmps.getD i undef)∧∀ i,(i∈l∨b.tmps[i]?=a'.tmps[i]?)->(uG b l fun i=>a'.tmps.getD i undef).tmps[i]?=a'.tmps[i]?
 | [],b,_,hk=>⟨hk,fun i hi=>hi.resolve_left (by simp)⟩
 | j :: l,b,hl,hk=>by
  have JL:cO ws true a' (b.put (some j) (a'.tmps.getD j undef)):=hk.trans (cO.put (by rintro d ⟨⟩;exact hl j (by simp)));obtain ⟨h1,h2⟩:=oS l (b.put (some j) (a'.tmps.getD j undef)) (fun i hi=>hl i (by simp [hi])) JL;refine ⟨h1,fun i hi=>h2 i ?_⟩;by_cases UM:i=j
  ·subst UM;right;simp only [Act.put];by_cases an:i<a'.tmps.size
   ·rw [Array.getElem?_setIfInBounds_self_of_lt (by rw [hk.1];exact an)];exact (uu an).symm
   ·have e1:a'.tmps[i]?=none:=a2u (by omega);have e2:(b.tmps.setIfInBounds i (a'.tmps.getD i undef))[i]?=none:=a2u (by rw [Array.size_setIfInBounds,hk.1];omega);rw [e1];exact e2
  ·rcases hi with hi | hi
   ·rcases a0E.1 hi with rfl | hi
    ·exact absurd rfl UM
    ·exact .inl hi
   ·right;simp only [Act.put];rw [a1Z (a3t UM)];exact hi
theorem AZ {ws:List Nat}{a a':Act} (h:cO ws true a a'):uG a ws (fun i=>a'.tmps.getD i undef)=a':=by
 have hk:cO ws true a' a:=⟨h.1.symm,fun _=>(h.2.1 rfl).symm,fun i hi=>(h.2.2 i hi).symm⟩;obtain ⟨h1,h2⟩:=oS (a':=a') ws a (fun _ hi=>hi) hk;refine Act.ext' ?_ (h1.2.1 rfl);apply Array.ext_getElem?;intro i;by_cases hi:i∈ws
 ·exact h2 i (.inl hi)
 ·exact h2 i (.inr (h.2.2 i hi).symm)
theorem oY {a:Act}:∀ {ps:List (Nat × Value)},(∀ p∈ps,p.2=a.tmps.getD p.1 undef)->qj a ps=a
 | [],_=>rfl
 | (t,v) :: r,h=>by
  have h0:v=a.tmps.getD t undef:=h (t,v) (by simp)
  have:a.put (some t) v=a:=by
   by_cases ht:t<a.tmps.size
   ·exact jS (by rw [h0];exact uu ht)
   ·refine Act.ext' ?_ rfl;simp only [Act.put,Array.setIfInBounds];rw [dif_neg ht]
  show qj (a.put (some t) v) r=a;rw [this];exact oY fun p hp=>h p (by simp [hp])
theorem mV {P:Program}:∀ {L:List (Nat × TypeId)}{k:List (Nat × Value)->Prop},tK P L k->∃ ps,ps.map (·.1)=L.map (·.1)∧k ps
 | [],_,h=>⟨[],rfl,h⟩
 | (t,ty) :: r,k,h=>by
  obtain ⟨v,h⟩:=nT h;obtain ⟨ps,hp,h⟩:=mV h;exact ⟨_,by simp [hp],h⟩
theorem o6 {a':Act}:∀ {L:List (Nat × TypeId)}{ps:List (Nat × Value)},ps.map (·.1)=L.map (·.1)->fQ a' L=ps.map (·.2)->∀ p∈ps,p.2=a'.tmps.getD p.1 undef
 | [],[],_,_,p,hp=>by simp at hp
 | _ :: _,[],h,_,_,_=>by simp at h
 | [],_ :: _,h,_,_,_=>by simp at h
 | (t,ty) :: L,(s,v) :: ps,h,h',p,hp=>by
  simp only [a2k,List.cons.injEq] at h;simp only [fQ,a2k,List.cons.injEq] at h';rcases a0E.1 hp with rfl | hp
  ·simp only [h.1,h'.1]
  ·exact o6 h.2 h'.2 p hp
theorem mh {P:Program}{ws:List Nat}{L:List (Nat × TypeId)}{a a':Act}{K:Act->au->Prop}{H:au} (h:rp P ws L a K (fQ a' L) H) (hk:cO ws true a a'):K a' H:=by
 obtain ⟨ps,hp,hs,h⟩:=mV (h fun i=>a'.tmps.getD i undef);rw [AZ hk,oY (o6 hp hs)] at h;exact h
theorem nB {r:Option Nat}{c c':Code} (h:r=none∨(eE c=true∧cu c=true)) (h1:eE c=true->eE c'=true) (h2:cu c=true->cu c'=true):r=none∨(eE c'=true∧cu c'=true) :=
 h.imp id fun h=>⟨h1 h.1,h2 h.2⟩
theorem sU {Q:Nat->au->Prop}:∀ {l:List Nat}{id:Nat}{H:au},zt (l.map fun i=>(i,Q i)) id H->Q id H
 | [],_,_,h=>h.elim
 | i :: l,id,H,h=>by
  simp only [a2k,zt] at h;split at h
  ·rename_i e;rw [of_decide_eq_true e];exact h
  ·exact sU h
theorem fh {P:Program} (hP:GoodPg P){Ls:xE}{r:Option Nat}{m:Nat}:∀ (c:Code) (Q:qx) (a:Act) (dr:List Deferred) (l:List Nat) (w:World),(r=none∨(eE c=true∧cu c=true))->m<=w.heap.size->MixD m w.heap dr a.defers l ->
  ev P Ls c Q a w.heap->c.wpIn (FR r) 0 P (Nj Q c m a l w) (Act.re a dr) w
 | .skip,Q,a,dr,l,w,_,_,hm,h=>wpIn_skip ⟨trivial,a,l,rfl,h,dj.refl w,cO.refl _ _ a,hm,fun _=>rfl⟩
 | .label _,Q,a,dr,l,w,_,_,hm,h=>wpIn_label ⟨trivial,a,l,rfl,h,dj.refl w,cO.refl _ _ a,hm,fun _=>rfl⟩
 | .region id ops draw,Q,a,dr,l,w,hr,_,hm,h=>by
  have Do:∀ (i:Nat) (o:Oper),ops[i]?=some o->∀ d,o.dst=some d->d∈eO (.region id ops draw):=fun i o ho d hd =>
   List.mem_filterMap.2 ⟨o,by simpa using Array.mem_of_getElem? ho,hd⟩
  simp only [ev] at h;split at h
  ·refine wpIn_region_list (lC hP ops.toList a dr w (fun o ho d hd=>List.mem_filterMap.2 ⟨o,ho,hd⟩) (hr.imp (fun h=>h) fun h=>h.2) hm h ?_);exact fun a' dr' w' hq hs hk OC=>⟨trivial,a',l,rfl,hq,hs,hk,OC,fun _=>rfl⟩
  ·have V8:r=none:=hr.resolve_right (by simp [eE]);subst V8;split at h
   ·rename_i Ot;refine wpIn_wide.2 (wp_region_any hP.mixed (qP _ (xR []) _ _ _ ?_));refine gr hP Do Ot (dr:=dr) (fun c a w h=>h.1) ops.size _ [] a { w with drawn:=w.drawn+1 } ?_ trivial h ?_
    ·intro l hl;by_cases an:l<ops.size <;> simp [an] at hl
    ·exact fun a' w' hq hs hk=>⟨trivial,a',l,rfl,hq,⟨hs.1,hs.2.1,hs.2.2.1,a0O (a3v _) hs.2.2.2.1,hs.2.2.2.2⟩,hk.mono (fun _ hi=>hi) (fun _=>rfl),by rw [hk.2.1 rfl];exact hm.keep hs.2.2.2.2,fun _=>rfl⟩
   ·exact h.elim
 | .seq x y,Q,a,dr,l,w,hr,zw,hm,h=>by
  have hx:∀ i∈eO x,i∈eO (.seq x y):=fun i hi=>a2U _ hi;have hy:∀ i∈eO y,i∈eO (.seq x y):=fun i hi=>a3o _ hi;have dx:cu (.seq x y)=true->cu x=true:=fun h=>by simp only [cu,a2b] at h;exact h.1
  have dy:cu (.seq x y)=true->cu y=true:=fun h=>by simp only [cu,a2b] at h;exact h.2
  have rx:de (.seq x y)=true->de x=true:=fun h=>by simp only [de,a2b] at h;exact h.1
  have ry:de (.seq x y)=true->de y=true:=fun h=>by simp only [de,a2b] at h;exact h.2
  have X3:=nB (c':=x) hr (fun h=>by simp only [eE,a2b] at h;exact h.1) dx;have X4:=nB (c':=y) hr (fun h=>by simp only [eE,a2b] at h;exact h.2) dy;simp only [ev] at h;split at h
  ·refine wpIn_seq (wpIn_mono (fh hP x _ a dr l w X3 zw hm h) ?_);rintro e ar w' ⟨hp,a',l',ha,hq,hs,hk,OC,hl⟩;cases e with
   | normal =>
    rw [ha];refine wpIn_mono (fh hP y Q a' ar.defers l' w' X4 (a0O zw hs.2.2.2.2.1) OC hq) ?_;rintro e ar' w'' ⟨OG,a'',l'',Sx,TC,Ol,JL,R7,Ou⟩;exact ⟨OG,a'',l'',Sx,TC,hs.trans Ol,(hk.mono hx dx).trans (JL.mono hy dy),R7,fun h=>(Ou (ry h)).trans (hl (rx h))⟩
   | panic c=>exact hp.elim
   | outgrown=>exact hp.elim
   | _=>exact ⟨trivial,a',l',ha,hq,hs,hk.mono hx dx,OC,fun h=>hl (rx h)⟩
  ·rename_i L hL;split at h
   ·rename_i hnd;obtain ⟨J,h1,h2⟩:=h;refine wpIn_seq (wpIn_mono (fh hP x _ a dr l w X3 zw hm h1) ?_);rintro e ar w' ⟨hp,a',l',ha,hq,hs,hk,OC,hl⟩;cases e with
    | normal =>
     rw [ha];have TC:=mh (h2 _ _ hq) (hk.mono (fun _ hi=>hi) fun _=>hnd);refine wpIn_mono (fh hP y Q a' ar.defers l' w' X4 (a0O zw hs.2.2.2.2.1) OC TC) ?_;rintro e ar' w'' ⟨OG,a'',l'',Sx,TC,Ol,JL,R7,Ou⟩;exact ⟨OG,a'',l'',Sx,TC,hs.trans Ol,(hk.mono hx dx).trans (JL.mono hy dy),R7,fun h=>(Ou (ry h)).trans (hl (rx h))⟩
    | panic c=>exact hp.elim
    | outgrown=>exact hp.elim
    | _=>exact ⟨trivial,a',l',ha,hq,hs,hk.mono hx dx,OC,fun h=>hl (rx h)⟩
   ·exact h.elim
 | .cond c x y,Q,a,dr,l,w,hr,zw,hm,h=>by
  have hx:∀ i∈eO x,i∈eO (.cond c x y):=fun i hi=>a2U _ hi;have hy:∀ i∈eO y,i∈eO (.cond c x y):=fun i hi=>a3o _ hi;have dx:cu (.cond c x y)=true->cu x=true:=fun h=>by simp only [cu,a2b] at h;exact h.1
  have dy:cu (.cond c x y)=true->cu y=true:=fun h=>by simp only [cu,a2b] at h;exact h.2
  have rx:de (.cond c x y)=true->de x=true:=fun h=>by simp only [de,a2b] at h;exact h.1
  have ry:de (.cond c x y)=true->de y=true:=fun h=>by simp only [de,a2b] at h;exact h.2
  have X3:=nB (c':=x) hr (fun h=>by simp only [eE,a2b] at h;exact h.1) dx;have X4:=nB (c':=y) hr (fun h=>by simp only [eE,a2b] at h;exact h.2) dy;simp only [ev] at h;split at h
  ·rename_i b hb;have same:∀ t,c=.tmp t->a.put (some t) (.bool b)=a:=by
    rintro t rfl;refine jS ?_;simp only [Act.eval] at hb;by_cases ht:t<a.tmps.size
    ·rw [uu ht,hb]
    ·have:a.tmps.getD t undef=undef:=by simp [ht]
     rw [this] at hb;cases hb
   have h:cond b (ev P Ls x Q a w.heap) (ev P Ls y Q a w.heap):=by
    cases c with
    | tmp t =>
     have e:=same t rfl;cases b
     ·simp only [e,a0f] at h ⊢;exact h
     ·simp only [e,a0P] at h ⊢;exact h
    | _=>exact h
   have k9:(Act.re a dr).eval c=.bool b:=by rw [iT];exact hb
   cases b
   ·exact wpIn_cond_false k9 (wpIn_mono (fh hP y Q a dr l w X4 zw hm h) fun e ar w' ⟨h1,a',l',h2,h3,h4,h5,h6,h7⟩=>⟨h1,a',l',h2,h3,h4,h5.mono hy dy,h6,fun h=>h7 (ry h)⟩)
   ·exact wpIn_cond_true k9 (wpIn_mono (fh hP x Q a dr l w X3 zw hm h) fun e ar w' ⟨h1,a',l',h2,h3,h4,h5,h6,h7⟩=>⟨h1,a',l',h2,h3,h4,h5.mono hx dx,h6,fun h=>h7 (rx h)⟩)
  ·exact h.elim
 | .block id b,Q,a,dr,l,w,hr,zw,hm,h=>by
  simp only [ev] at h;refine wpIn_block (wpIn_mono (fh hP b _ a dr l w hr zw hm h) ?_);rintro e ar w' ⟨hp,a',l',ha,hq,hs,hk,OC,hl⟩;cases e with
  | exit id' =>
   simp only [vV] at hq;simp only [Exit.inBlock];split at hq
   ·rename_i ZT;rw [a0b (of_decide_eq_true ZT)];exact ⟨trivial,a',l',ha,hq,hs,hk,OC,hl⟩
   ·rename_i ZT;rw [a0a (of_decide_eq_false ZT)];exact ⟨trivial,a',l',ha,hq,hs,hk,OC,hl⟩
  | panic c=>exact hp.elim
  | outgrown=>exact hp.elim
  | _=>exact ⟨trivial,a',l',ha,hq,hs,hk,OC,hl⟩
 | .loop b,Q,a,dr,l,w,hr,zw,hm,h=>by
  simp only [ev] at h;split at h
  ·exact h.elim
  ·rename_i L hL;split at h
   ·rename_i hnd;obtain ⟨I,μ,h0,h⟩:=h;refine wpIn_loop (fun ar w'=>∃ a' l',ar=Act.re a' ar.defers∧I (fQ a' L) w'.heap∧dj w w'∧cO (eO b) true a a'∧MixD m w'.heap ar.defers a'.defers l'∧(de b=true->l'=l)) (fun ar w'=>μ (fQ ar L) w'.heap) ⟨a,l,rfl,h0,dj.refl w,cO.refl _ _ a,hm,fun _=>rfl⟩ ?_;rintro ar w' ⟨a',l',ha,hI,hs,hk,OC,hl⟩;have hb:=mh (h _ _ hI) hk;have hw:=fh hP b _ a' ar.defers l' w' hr (a0O zw hs.2.2.2.2.1) OC hb;rw [←ha] at hw;refine wpIn_mono hw ?_;rintro e ar' w'' ⟨OG,a'',l'',Sx,TC,Ol,JL,R7,Ou⟩;have OU:cO (eO b) true a' a'':=JL.mono (fun _ hi=>hi) fun _=>hnd;cases e with
    | normal =>
     refine ⟨⟨a'',l'',Sx,TC.1,hs.trans Ol,hk.trans OU,R7,fun h=>(Ou h).trans (hl h)⟩,?_⟩;have e1:fQ ar' L=fQ a'' L:=by rw [Sx];rfl
     have e2:fQ ar L=fQ a' L:=by rw [ha];rfl
     rw [e1,e2];exact TC.2
    | panic c=>exact OG.elim
    | outgrown=>exact OG.elim
    | _=>exact ⟨trivial,a'',l'',Sx,TC,hs.trans Ol,(hk.trans OU).mono (fun _ hi=>hi) fun _=>rfl,R7,fun h=>(Ou h).trans (hl h)⟩
   ·exact h.elim
 | .exit id,Q,a,dr,l,w,_,_,hm,h=>wpIn_exit ⟨trivial,a,l,rfl,h,dj.refl w,cO.refl _ _ a,hm,fun _=>rfl⟩
 | .ret,Q,a,dr,l,w,_,_,hm,h=>wpIn_ret ⟨trivial,a,l,rfl,h,dj.refl w,cO.refl _ _ a,hm,fun _=>rfl⟩
 | .rangeFunc g ps assign body,Q,a,dr,l,w,hr,zw,hm,h=>by
  have V8:r=none:=hr.resolve_right (by simp [eE]);subst V8;simp only [ev] at h;split at h
  ·rename_i gf first lb hg
   refine wpIn_rangeFunc ?_;intro fn _;obtain ⟨⟨f',s7,I7⟩,hc⟩:=h fn;have hc:=hc { w with heap:=(w.heap.push (.deferred (some []))).push (.loop (lV fn a.tmps ps assign body w.heap.size)) } rfl;obtain ⟨W1,ZU⟩:∃ W1:World,W1={ w with heap:=(w.heap.push (.deferred (some []))).push (.loop (lV fn a.tmps ps assign body w.heap.size)) }:=⟨_,rfl⟩;rw [←ZU] at hc;refine ⟨w.heap.size+1,[⟨.collected w.heap.size,#[]⟩],W1,⟨.fn (.func gf) lb,first++#[.func (.yield (w.heap.size+1)) #[] #[]]⟩,W1,gf,(first++#[.func (.yield (w.heap.size+1)) #[] #[]])++lb,W1,(by rw [ZU];exact run_enterLoop_outer fn a.tmps ps assign body),?_,fun _ _=>trivial,?_,fun h=>(by cases h),?_⟩
   ·have TD:(Act.re a dr).eval g=.func (.func gf) first lb:=by rw [iT];exact hg
    simp only [resolve,TD,Deferred.ofValue,Sem.run_pure];simp only [List.map_toArray,a2k,a26];rfl
   ·exact kj hP s7 I7 ((first++#[.func (.yield (w.heap.size+1)) #[] #[]])++lb) _
   ·refine rh (r:=none) (hc.mono ?_);rintro e w3 ⟨v,rfl,hq,hs⟩;obtain ⟨rr,Tk,hbz,hj⟩:=hq;rw [ZU] at hs;have hsw:dj w w3:=(dj.heap (w:=w) ((dK.push _ _).trans (dK.push _ _))).trans hs;obtain ⟨o,ho⟩:∃ o,o=({ rr with state:=.exhausted }:Loop):=⟨_,rfl⟩;have Rv:=run_endLoop (P:=P) Tk hbz;simp only [←ho] at hj Rv;have Rw:dK w3.heap (w3.heap.setIfInBounds (w.heap.size+1) (.loop o)):=dK.setObj Tk (by simp);have T9:dj w (w3.putObj (w.heap.size+1) (.loop o)):=hsw.trans (dj.heap (w:=w3) Rw);have hD:w3.heap[w.heap.size]?=some (.deferred (some [])):=hs.2.2.2.2.2 _ _ (by
     show ((w.heap.push (.deferred (some []))).push (.loop (lV fn a.tmps ps assign body w.heap.size)))[w.heap.size]?=_;rw [a2D,a0a (by simp),a3E])
    have UN:MixD m (w3.putObj (w.heap.size+1) (.loop o)).heap (⟨.collected w.heap.size,#[]⟩ :: dr) a.defers (w.heap.size :: l) :=
     .mark (Rw.2 _ _ hD) zw (fun Jk=>by have:=(hm.lt _ Jk).2;rw [a2u (a0U _)] at this;cases this) (hm.keep T9.2.2.2.2)
    refine ⟨rr.pending,_,Rv,?_⟩;split at hj
    ·rename_i hp;simp only [hp];exact ⟨trivial,a,_,rfl,hj,T9,cO.refl _ _ a,UN,fun h=>by cases h⟩
    ·rename_i hp;simp only [hp];exact wpIn_ret ⟨trivial,a,_,rfl,hj,T9,cO.refl _ _ a,UN,fun h=>by cases h⟩
    ·rename_i id hp;simp only [hp];exact wpIn_exit ⟨trivial,a,_,rfl,sU (Q:=fun i=>Q (.exit i) a) hj,T9,cO.refl _ _ a,UN,fun h=>by cases h⟩
    ·exact hj.elim
  ·exact h.elim
 | .scope _,_,_,_,_,_,_,_,_,h=>h.elim
 | .goto _,_,_,_,_,_,_,_,_,h=>h.elim
 | .refuse _,_,_,_,_,_,_,_,_,h=>h.elim
def ut (tmps:Array Value):ResultVar->Sem Value
 | .tmp t=>pure (tmps.getD t undef)
 | .cell a t=>do loadVar t (← asAddr (tmps.getD a undef))
theorem oH {P:Program}{a:Act}{w:World}:∀ {l:List ResultVar}{k:List Value->Prop},rR P a w.heap l k->∃ vs,k vs∧(l.mapM (ut a.tmps)).run P w=.ok vs w
 | [],_,h=>⟨[],h,rfl⟩
 | .tmp t :: r,k,h=>by
  obtain ⟨vs,hk,hr⟩:=oH (l:=r) h;exact ⟨_,hk,by simp [List.mapM_cons,ut,hr]⟩
 | .cell x t :: r,k,h=>by
  simp only [rR] at h;split at h
  ·rename_i ad hx;obtain ⟨v,cs,h,hc,OP⟩:=lz h;obtain ⟨vs,hk,hr⟩:=oH (l:=r) h;refine ⟨_,hk,?_⟩;rw [List.mapM_cons];simp only [Sem.run_bind,ut,hx,asAddr,Sem.run_pure,Result.andThen_ok,OP w hc,hr]
  ·exact h.elim
theorem px {P:Program}{fn:Func}{a:Act}{w:World}{k:Value->Prop} (h:rR P a w.heap fn.results.toList fun vs=>match vs with
  | [v]=>k v
  | vs=>k (.tuple vs.toArray)):∃ v,k v∧(results fn a.tmps).run P w=.ok v w:=by
 obtain ⟨vs,hk,hr⟩:=oH h;have e:(results fn a.tmps)=(do let vs ← fn.results.mapM (ut a.tmps);pure (if h:vs.size=1 then vs[0] else .tuple vs)):=by
  unfold results
  congr 1
 rw [e,Array.mapM_eq_mapM_toList];simp only [Sem.run_bind,Sem.run_map,hr,Result.andThen_ok,Sem.run_pure]
 match vs,hk with
 | [],hk=>exact ⟨_,hk,by simp⟩
 | [v],hk=>exact ⟨_,hk,by simp⟩
 | v :: u :: r,hk=>exact ⟨_,hk,by simp⟩
theorem vd {P:Program} (hP:GoodPg P){f:FuncId}{fn:Func} (hf:P.funcs[f]?=some fn){c:Code} (hc:fn.body=some c){Ls:xE}{args:Array Value}{Q:Value->au->Prop}{H:au}{X:Prop}
  (hX:X=ev P Ls c (QK P fn Q) (om fn args) H) (h:X) (hn:(cu c && de c)=true:=by kernel_rfl):ag P f args Q H:=by
 rw [a2b] at hn;refine ⟨⟨fn,hf,by rw [hc];rfl⟩,fun w hw=>?_⟩;subst hw;rw [hX] at h;have hs:=fh hP (r:=none) (m:=w.heap.size) c _ (om fn args) [] [] w (.inl rfl) (a0U _) .nil h;refine calls_of_wp hf hc (wp_mono (wpIn_wide.1 hs) ?_);rintro e ar w' ⟨hp,a',l',ha,hq,hs,hk,hm,hl⟩;have Ou:=hl hn.2;subst Ou;have hd:a'.defers=[]:=hk.2.1 hn.1;have TA:ar.defers=[]:=by
  rw [hd] at hm;generalize ar.defers=ds at hm;cases hm;rfl
 have main:rR P a' w'.heap fn.results.toList (fun vs=>match vs with
  | [v]=>Q v w'.heap
  | vs=>Q (.tuple vs.toArray) w'.heap)->ar.defers=[]∧∃ v,(results fn ar.tmps).run P w'=.ok v w'∧(∃ v_1,Ending.returned v=.returned v_1∧Q v_1 w'.heap∧dj w w'):=by
  intro hq;obtain ⟨v,hv,hr⟩:=px (k:=fun v=>Q v w'.heap) hq;rw [ha];exact ⟨TA,v,hr,v,rfl,hv,hs⟩
 cases e with
 | normal=>exact main hq
 | ret=>exact main hq
 | panic c=>exact hp.elim
 | outgrown=>exact hp.elim
 | exit id=>exact hq.elim
 | goto l=>exact hq.elim
theorem lB.refl (n:Nat) (H:au):lB n H H:=⟨rfl,fun _=>.inl rfl⟩
theorem zL {P:Program} (hP:GoodPg P){fn:Func}{mk:Bool}{n:Nat}{tmps:Array Value}{Q:Value->au->Prop}{w0:World}{k:Nat}{dr da:List Deferred}{l:List Nat}{H:au} (hm:MixD n H dr da l):∀ (H0:au) (w:World),w.heap=H->n=w0.heap.size->dj w0 w->lB n H0 H->(mk=false->l=[]∧H0=H)->kh P fn mk n tmps Q da H0 ->
  LeavesInM Fence.wide k P fn tmps (fun e w'=>∃ v,e=.returned v∧Q v w'.heap∧dj w0 w') dr .returning w:=by
 have fin:∀ (H0 H:au) (w:World),w.heap=H->dj w0 w->lB n H0 H->(mk=false->H0=H)->kh P fn mk n tmps Q [] H0->LeavesInM Fence.wide k P fn tmps (fun e w'=>∃ v,e=.returned v∧Q v w'.heap∧dj w0 w') [] .returning w:=by
  intro H0 H w hw hs Jg UO h;subst hw;have h:rR P ⟨tmps,[]⟩ w.heap fn.results.toList (fun vs=>match vs with
   | [v]=>Q v w.heap
   | vs=>Q (.tuple vs.toArray) w.heap):=by
   unfold kh at h;cases mk with
   | true=>exact h _ Jg
   | false=>rw [UO rfl] at h;exact h
  obtain ⟨v,hv,hr⟩:=px (a:=⟨tmps,[]⟩) (k:=fun v=>Q v w.heap) h;exact ⟨v,hr,v,rfl,hv,hs⟩
 have put:∀ {H:au}{D:Nat}{ds:List Deferred},H[D]?=some (.deferred (some ds))->D<H.size:=fun h=>(a1j.1 h).1
 induction dr generalizing da l H with
 | nil =>
  intro H0 w hw hn hs Jg UO h;cases hm;exact fin H0 H w hw hs Jg (fun e=>(UO e).2) h
 | cons d dr ih =>
  intro H0 w hw hn hs Jg UO h;subst hw;cases hm with
  | @mark D _ _ l h1 h2 h3 hm =>
   have ZV:mk=true:=by cases mk with | true=>rfl | false=>exact absurd (UO rfl).1 (by simp)
   refine ⟨by simp,.inl ⟨_,_,rfl,run_takeDeferred h1,?_⟩⟩;have an:=put h1;have hother:∀ b,b≠D->(w.heap.setIfInBounds D (Obj.deferred none))[b]?=w.heap[b]?:=fun b hb=>a1Z (a3t hb);have Jl:(w.heap.setIfInBounds D (Obj.deferred none))[D]?=some (.deferred none):=by simp [an]
   refine ih (da:=da) (l:=l) (H:=(w.putObj D (.deferred none)).heap) ?_ H0 (w.putObj D (.deferred none)) rfl hn ?_ ?_ (fun e=>by rw [ZV] at e;cases e) h
   ·have:∀ {dr da:List Deferred}{l:List Nat},D∉l->MixD n w.heap dr da l->MixD n (w.putObj D (.deferred none)).heap dr da l:=by
     intro dr da l hD hm
     induction hm with
     | nil=>exact .nil
     | @mark D' _ _ _ g1 g2 g3 _ ih =>
      have ic:D'≠D:=fun e=>hD (by simp [e]);exact .mark ((hother D' ic).trans g1) g2 g3 (ih fun h=>hD (by simp [h]))
     | call _ ih=>exact .call (ih hD)
    exact this h3 hm
   ·refine ⟨hs.1,hs.2.1,hs.2.2.1,hs.2.2.2.1,by rw [World.putObj_size];exact hs.2.2.2.2.1,fun b ds hb=>?_⟩;have D0:b<w0.heap.size:=(a1j.1 hb).1;exact (hother b (by omega)).trans (hs.2.2.2.2.2 b ds hb)
   ·refine ⟨by rw [World.putObj_size];exact Jg.1,fun b=>?_⟩;by_cases ZW:b=D
    ·subst ZW;rcases Jg.2 b with h4 | ⟨_,_,h4⟩
     ·exact .inr ⟨h2,by rw [←h4];exact h1,Jl⟩
     ·rw [h1] at h4;cases h4
    ·rcases Jg.2 b with h4 | ⟨h4,h5,h6⟩
     ·exact .inl ((hother b ZW).trans h4)
     ·exact .inr ⟨h4,h5,(hother b ZW).trans h6⟩
  | @call _ _ da l hm =>
   unfold kh at h;split at h
   ·rename_i g cap ht;have hc:ya P g (d.args++cap) (fun H''=>kh P fn mk n tmps Q da H'') w.heap:=by
     cases mk with
     | true=>exact h _ Jg
     | false=>have:=(UO rfl).2;subst this;exact h
    obtain ⟨⟨f',s7,I7⟩,hc⟩:=hc;refine ⟨by simp,.inr ⟨fun h=>(by cases h),.func g,cap,g,d.args++cap,ht,?_,fun _ _=>trivial,?_⟩⟩
    ·rw [ht];exact kj hP s7 I7 _ _
    ·have X5:=hc w .returning rfl;refine CallsDIn.mono (F:=Fence.wide) (n:=k-1) ⟨X5.1,fun c cs hu _=>X5.2 c cs hu (room_wide _)⟩ ?_;rintro e u' w' ⟨rfl,⟨v,rfl⟩,hq,Ol⟩;exact ih (hm.keep Ol.2.2.2.2) w'.heap w' rfl hn (hs.trans Ol) (lB.refl _ _) (fun e=>⟨(UO e).1,rfl⟩) hq
   ·exact h.elim
theorem Ad {P:Program} (hP:GoodPg P){f:FuncId}{fn:Func} (hf:P.funcs[f]?=some fn){c:Code} (hc:fn.body=some c){Ls:xE}{args:Array Value}{Q:Value->au->Prop}{H:au}{X:Prop}{mk:Bool}
  (hX:X=ev P Ls c (QS P fn mk H.size Q) (om fn args) H) (h:X) (hn:(!mk)=de c:=by kernel_rfl):ag P f args Q H:=by
 refine ⟨⟨fn,hf,by rw [hc];rfl⟩,fun w hw=>?_⟩;subst hw;rw [hX] at h;have hs:=fh hP (r:=none) (m:=w.heap.size) c _ (om fn args) [] [] w (.inl rfl) (a0U _) .nil h;refine callsIn_wide (n:=0).1 (callsIn_of_wp_marks hf hc trivial (wpIn_mono hs ?_));rintro e ar w' ⟨hp,a',l',ha,hq,hs,hk,hm,hl⟩;have main:kh P fn mk w.heap.size a'.tmps Q a'.defers w'.heap->LeavesInM Fence.wide 0 P fn ar.tmps (fun e w'=>∃ v,e=.returned v∧Q v w'.heap∧dj w w') ar.defers .returning w':=by
  intro hq
  have:=zL hP (w0:=w) (k:=0) hm w'.heap w' rfl rfl hs (lB.refl _ _) (fun e=>⟨hl (by rw [←hn,e];rfl),rfl⟩) hq;rw [ha];exact this
 cases e with
 | normal=>exact main hq
 | ret=>exact main hq
 | panic c=>exact hp.elim
 | outgrown=>exact hp.elim
 | exit id=>exact hq.elim
 | goto l=>exact hq.elim
theorem AB {P:Program} (hP:GoodPg P){Ls Ls':xE}{l:Nat}{args:Array Value}{r:Loop}{Q:Value->au->Prop}{H:au} (hl:H[l]?=some (.loop r)) (zw:args.size=r.params.size) (hq:(eE r.assign && cu r.assign && eE r.body && cu r.body)=true)
  (h:ev P Ls r.assign (BH l fun a1 H1=>ev P Ls' r.body (BR l Q) a1 H1) ⟨(r.params.zip args).foldl (fun tmps (t,a)=>tmps.setIfInBounds t a) r.tmps,[]⟩ H):jK P l args Q H:=by
 intro w hw;subst hw;simp only [a2b] at hq;obtain ⟨⟨⟨q1,q2⟩,q3⟩,q4⟩:=hq;refine ⟨r.fn,_,r.assign,r.body,run_yield hl zw,roundIn_of_wpIn trivial ?_⟩;have h1:=fh hP (r:=some l) (m:=0) (Ls:=Ls) r.assign _ _ [] [] w (.inr ⟨q1,q2⟩) (a07 _) .nil h;refine wpIn_mono h1 ?_;rintro e ar w1 ⟨hp,a1,l1,ha,Jf,hs,hk,hm,J9⟩;cases e with
 | normal =>
  obtain ⟨r1,OP,s8,hb⟩:=Jf;have OU:dK w1.heap (w1.heap.setIfInBounds l (.loop { r1 with state:=.busy })):=dK.setObj OP (by simp);have Jw:dj w (w1.putObj l (.loop { r1 with state:=.busy })):=hs.trans (dj.heap (w:=w1) OU);refine ⟨w1.putObj l (.loop { r1 with state:=.busy }),run_beginRound OP s8,?_⟩;rw [ha];refine wpIn_mono (fh hP (r:=some l) (m:=0) r.body _ a1 ar.defers l1 (w1.putObj l (.loop { r1 with state:=.busy })) (.inr ⟨q3,q4⟩) (a07 _) (hm.keep OU) hb) ?_;rintro e ar' w3 ⟨OG,a2,l2,ha2,AT,VO,TE,UP,Tk⟩;have fin:∀ (r2:Loop) (o:Loop),w3.heap[l]?=some (.loop r2)->dj w (w3.putObj l (.loop o)):=fun r2 o h2=>(Jw.trans VO).trans (dj.heap (w:=w3) (dK.setObj h2 (by simp)));cases e with
  | normal =>
   obtain ⟨r2,h2,hQ⟩:=AT;exact ⟨_,_,run_endRound none h2,_,rfl,hQ,fin r2 _ h2⟩
  | ret =>
   obtain ⟨r2,h2,hQ⟩:=AT;exact ⟨_,_,run_endRound (some .ret) h2,_,rfl,hQ,fin r2 _ h2⟩
  | exit id =>
   obtain ⟨r2,h2,hQ⟩:=AT;exact ⟨_,_,run_endRound (some (.exit id)) h2,_,rfl,hQ,fin r2 _ h2⟩
  | goto t=>exact AT.elim
  | panic c=>exact OG.elim
  | outgrown=>exact OG.elim
 | ret=>exact Jf.elim
 | exit id=>exact Jf.elim
 | goto t=>exact Jf.elim
 | panic c=>exact hp.elim
 | outgrown=>exact hp.elim
theorem xO {P:Program} (hP:GoodPg P){Ls Ls':xE}{l:Nat}{args:Array Value}{r:Loop}{Q:Value->au->Prop}{H:au}{X:Prop} (hl:H[l]?=some (.loop r)) (zw:args.size=r.params.size) (hq:(eE r.assign && cu r.assign && eE r.body && cu r.body)=true)
  (hX:X=ev P Ls r.assign (BH l fun a1 H1=>ev P Ls' r.body (BR l Q) a1 H1) ⟨(r.params.zip args).foldl (fun tmps (t,a)=>tmps.setIfInBounds t a) r.tmps,[]⟩ H) (h:X):jK P l args Q H :=
 AB hP hl zw hq (by rw [hX] at h;exact h)
end Kw
namespace Go.Proofs.YtgjfejoohojokaaGreatDoor
open Kw
abbrev QT:=Value->au->Prop
noncomputable abbrev PP:=Tryz.prog
theorem good:GoodPg PP:=⟨by kernel_rfl,by kernel_rfl⟩
abbrev aL (b : Nat) : Addr := ⟨b, 0, none⟩
abbrev aN (b o : Nat) : Addr := (⟨b, 0, none⟩ : Addr).add o
abbrev aA (n m : Int) : Value := .tuple #[.int .i64 n, .int .i64 m]
abbrev A6 (f : FuncId) (x : Array Value) (Q : Value -> au -> Prop) (H : au) : Prop := ag PP f x Q H
abbrev pz {α : Type} (x : Sem α) (Q : α -> au -> Prop) (H : au) : Prop := cB PP x Q H
abbrev aP (b : Bool) : Value := .bool b
abbrev bk (f : FuncId) (x : Array Value) (H : au) (K : Bool -> au -> Prop) : Prop := ag PP f x (fun v H => ∃ x0 : Bool, v = .bool x0 ∧ K x0 H) H
abbrev iS (f : FuncId) (x : Array Value) (H : au) (K : Nat -> Array Value -> Array Value -> au -> Prop) : Prop := ag PP f x (fun v H => ∃ x0 : Nat, ∃ x1 : Array Value, ∃ x2 : Array Value, v = .func (.func x0) x1 x2 ∧ K x0 x1 x2 H) H
abbrev aC (f : FuncId) (x : Array Value) (H : au) (K : Int -> au -> Prop) : Prop := ag PP f x (fun v H => ∃ x0 : Int, v = .int .i64 x0 ∧ K x0 H) H
abbrev cq (f : FuncId) (x : Array Value) (H : au) (K : Option Addr -> Nat -> Nat -> au -> Prop) : Prop := ag PP f x (fun v H => ∃ x0 : Option Addr, ∃ x1 : Nat, ∃ x2 : Nat, v = .slice x0 x1 x2 ∧ K x0 x1 x2 H) H
abbrev A7 (f : FuncId) (x : Array Value) (H : au) (K : Option Nat -> au -> Prop) : Prop := ag PP f x (fun v H => ∃ x0 : Option Nat, v = .map x0 ∧ K x0 H) H
abbrev du (f : FuncId) (x : Array Value) (H : au) (K : Option Addr -> au -> Prop) : Prop := ag PP f x (fun v H => ∃ x0 : Option Addr, v = .pointer x0 ∧ K x0 H) H
abbrev eI (f : FuncId) (x : Array Value) (H : au) (K : ByteArray -> au -> Prop) : Prop := ag PP f x (fun v H => ∃ x0 : ByteArray, v = .string x0 ∧ K x0 H) H
abbrev ah (b : Bool) (x y : Prop) : Prop := cond b x y
abbrev rZ (f : FuncId) (x : Array Value) (H : au) (K : Int -> Int -> Int -> Option Addr -> Nat -> Nat -> au -> Prop) : Prop := ag PP f x (fun v H => ∃ x0 : Int, ∃ x1 : Int, ∃ x2 : Int, ∃ x3 : Option Addr, ∃ x4 : Nat, ∃ x5 : Nat, v = .agg #[.int .i64 x0, .int .i64 x1, .int .i64 x2, .slice x3 x4 x5] ∧ K x0 x1 x2 x3 x4 x5 H) H
abbrev se (f : FuncId) (x : Array Value) (H : au) (K : ByteArray -> ByteArray -> Option Addr -> Nat -> Nat -> Int -> au -> Prop) : Prop := ag PP f x (fun v H => ∃ x0 : ByteArray, ∃ x1 : ByteArray, ∃ x2 : Option Addr, ∃ x3 : Nat, ∃ x4 : Nat, ∃ x5 : Int, v = .agg #[.string x0, .string x1, .slice x2 x3 x4, .int .i64 x5] ∧ K x0 x1 x2 x3 x4 x5 H) H
abbrev pE (f : FuncId) (x : Array Value) (H : au) (K : Bool -> Int -> au -> Prop) : Prop := ag PP f x (fun v H => ∃ x0 : Bool, ∃ x1 : Int, v = .tuple #[.bool x0, .int .i64 x1] ∧ K x0 x1 H) H
abbrev kg (f : FuncId) (x : Array Value) (H : au) (K : Int -> Bool -> au -> Prop) : Prop := ag PP f x (fun v H => ∃ x0 : Int, ∃ x1 : Bool, v = .tuple #[.int .i64 x0, .bool x1] ∧ K x0 x1 H) H
abbrev jM (f : FuncId) (x : Array Value) (H : au) (K : Int -> Int -> Int -> Int -> au -> Prop) : Prop := ag PP f x (fun v H => ∃ x0 : Int, ∃ x1 : Int, ∃ x2 : Int, ∃ x3 : Int, v = .tuple #[.int .i64 x0, .int .i64 x1, .int .i64 x2, .int .i64 x3] ∧ K x0 x1 x2 x3 H) H
abbrev bW (f : FuncId) (x : Array Value) (H : au) (K : Int -> Int -> Int -> au -> Prop) : Prop := ag PP f x (fun v H => ∃ x0 : Int, ∃ x1 : Int, ∃ x2 : Int, v = .tuple #[.int .i64 x0, .int .i64 x1, .int .i64 x2] ∧ K x0 x1 x2 H) H
abbrev ak (f : FuncId) (x : Array Value) (H : au) (K : Int -> Int -> au -> Prop) : Prop := ag PP f x (fun v H => ∃ x0 : Int, ∃ x1 : Int, v = .tuple #[.int .i64 x0, .int .i64 x1] ∧ K x0 x1 H) H
abbrev dM (f : FuncId) (x : Array Value) (H : au) (K : Option Addr -> Nat -> Nat -> Int -> au -> Prop) : Prop := ag PP f x (fun v H => ∃ x0 : Option Addr, ∃ x1 : Nat, ∃ x2 : Nat, ∃ x3 : Int, v = .tuple #[.slice x0 x1 x2, .int .i64 x3] ∧ K x0 x1 x2 x3 H) H
abbrev fN (f : FuncId) (x : Array Value) (H : au) (K : Option Addr -> Int -> au -> Prop) : Prop := ag PP f x (fun v H => ∃ x0 : Option Addr, ∃ x1 : Int, v = .tuple #[.pointer x0, .int .i64 x1] ∧ K x0 x1 H) H
abbrev eb (f : FuncId) (x : Array Value) (H : au) (K : ByteArray -> Int -> au -> Prop) : Prop := ag PP f x (fun v H => ∃ x0 : ByteArray, ∃ x1 : Int, v = .tuple #[.string x0, .int .i64 x1] ∧ K x0 x1 H) H
abbrev jN (f : FuncId) (x : Array Value) (H : au) (K : ByteArray -> ByteArray -> Bool -> au -> Prop) : Prop := ag PP f x (fun v H => ∃ x0 : ByteArray, ∃ x1 : ByteArray, ∃ x2 : Bool, v = .tuple #[.string x0, .string x1, .bool x2] ∧ K x0 x1 x2 H) H
abbrev iZ (f : FuncId) (x : Array Value) (H : au) (K : Option Addr -> Int -> au -> Prop) : Prop := ag PP f x (fun v H => ∃ x0 : Option Addr, ∃ x1 : Int, v = .tuple #[.agg #[.pointer x0], .int .i64 x1] ∧ K x0 x1 H) H
abbrev fe (f : FuncId) (x : Array Value) (H : au) (K : au -> Prop) : Prop := ag PP f x (fun v H => v = .tuple #[] ∧ K  H) H
abbrev bP (a b : Int) : Bool := decide (a > b)
abbrev aX (a b : Int) : Bool := decide (a < b)
abbrev C6 (H : au) (a : Addr) (K : Bool -> Prop) : Prop := ∃ x0 : Bool, aq H a = some (.bool x0) ∧ K x0
abbrev nX (H : au) (a : Addr) (K : Nat -> Array Value -> Array Value -> Prop) : Prop := ∃ x0 : Nat, ∃ x1 : Array Value, ∃ x2 : Array Value, aq H a = some (.func (.func x0) x1 x2) ∧ K x0 x1 x2
abbrev ay (H : au) (a : Addr) (K : Int -> Prop) : Prop := ∃ x0 : Int, aq H a = some (.int .i64 x0) ∧ K x0
abbrev aK (H : au) (a : Addr) (K : Option Addr -> Nat -> Nat -> Prop) : Prop := ∃ x0 : Option Addr, ∃ x1 : Nat, ∃ x2 : Nat, aq H a = some (.slice x0 x1 x2) ∧ K x0 x1 x2
abbrev nZ (H : au) (a : Addr) (K : Option Nat -> Prop) : Prop := ∃ x0 : Option Nat, aq H a = some (.map x0) ∧ K x0
abbrev aF (H : au) (a : Addr) (K : Option Addr -> Prop) : Prop := ∃ x0 : Option Addr, aq H a = some (.pointer x0) ∧ K x0
abbrev cX (H : au) (a : Addr) (K : ByteArray -> Prop) : Prop := ∃ x0 : ByteArray, aq H a = some (.string x0) ∧ K x0
abbrev bc (q : Addr) (n : Int) (k : Nat) : Addr := q.add (Int.toNat n * k)
abbrev aZ (x : Array Value) : Value := .agg x
abbrev ac (n : Int) : Value := .int .i64 n
abbrev bf (i : Int) (l : Nat) (a : Option Addr) (K : Addr -> Prop) : Prop := ((0 : Int) <= i ∧ i < (l : Int)) ∧ ∃ q, a = some q ∧ K q
abbrev mS (A : (List Value -> au -> Prop) -> Prop) (B : au -> Prop) : Prop := ∃ J : List Value -> au -> Prop, A J ∧ ∀ w H, J w H -> ∀ _g : Nat -> Value, w = [] ∧ B H
abbrev rL (A : (List Value -> au -> Prop) -> Prop) (B : Bool -> au -> Prop) : Prop := ∃ J : List Value -> au -> Prop, A J ∧ ∀ w H, J w H -> ∀ _g : Nat -> Value, ∃ x0 : Bool, w = [.bool x0] ∧ B x0 H
abbrev C7 (A : (List Value -> au -> Prop) -> Prop) (B : Int -> au -> Prop) : Prop := ∃ J : List Value -> au -> Prop, A J ∧ ∀ w H, J w H -> ∀ _g : Nat -> Value, ∃ x0 : Int, w = [.int .i64 x0] ∧ B x0 H
abbrev Lv (A : (List Value -> au -> Prop) -> Prop) (B : Int -> Int -> au -> Prop) : Prop := ∃ J : List Value -> au -> Prop, A J ∧ ∀ w H, J w H -> ∀ _g : Nat -> Value, ∃ x0 : Int, ∃ x1 : Int, w = [.int .i64 x0, .int .i64 x1] ∧ B x0 x1 H
abbrev Pf (A : (List Value -> au -> Prop) -> Prop) (B : Option Addr -> Nat -> Nat -> au -> Prop) : Prop := ∃ J : List Value -> au -> Prop, A J ∧ ∀ w H, J w H -> ∀ _g : Nat -> Value, ∃ x0 : Option Addr, ∃ x1 : Nat, ∃ x2 : Nat, w = [.slice x0 x1 x2] ∧ B x0 x1 x2 H
abbrev Pg (A : (List Value -> au -> Prop) -> Prop) (B : Option Addr -> au -> Prop) : Prop := ∃ J : List Value -> au -> Prop, A J ∧ ∀ w H, J w H -> ∀ _g : Nat -> Value, ∃ x0 : Option Addr, w = [.pointer x0] ∧ B x0 H
abbrev QU (x : List Value) (H : au) (B : (List Value -> au -> Prop) -> (List Value -> au -> Nat) -> List Value -> au -> Prop) : Prop := ∃ (I : List Value -> au -> Prop) (μ : List Value -> au -> Nat), I x H ∧ ∀ w H, I w H -> ∀ _g : Nat -> Value, w = [] ∧ B I μ w H 
abbrev Lw (x : List Value) (H : au) (B : (List Value -> au -> Prop) -> (List Value -> au -> Nat) -> List Value -> au -> Bool -> Int -> Prop) : Prop := ∃ (I : List Value -> au -> Prop) (μ : List Value -> au -> Nat), I x H ∧ ∀ w H, I w H -> ∀ _g : Nat -> Value, ∃ x0 : Bool, ∃ x1 : Int, w = [.bool x0, .int .i64 x1] ∧ B I μ w H x0 x1
abbrev bX (x : List Value) (H : au) (B : (List Value -> au -> Prop) -> (List Value -> au -> Nat) -> List Value -> au -> Int -> Prop) : Prop := ∃ (I : List Value -> au -> Prop) (μ : List Value -> au -> Nat), I x H ∧ ∀ w H, I w H -> ∀ _g : Nat -> Value, ∃ x0 : Int, w = [.int .i64 x0] ∧ B I μ w H x0
abbrev js (x : List Value) (H : au) (B : (List Value -> au -> Prop) -> (List Value -> au -> Nat) -> List Value -> au -> Int -> Int -> Prop) : Prop := ∃ (I : List Value -> au -> Prop) (μ : List Value -> au -> Nat), I x H ∧ ∀ w H, I w H -> ∀ _g : Nat -> Value, ∃ x0 : Int, ∃ x1 : Int, w = [.int .i64 x0, .int .i64 x1] ∧ B I μ w H x0 x1
abbrev uI (x : List Value) (H : au) (B : (List Value -> au -> Prop) -> (List Value -> au -> Nat) -> List Value -> au -> Int -> Int -> Int -> Int -> Int -> Prop) : Prop := ∃ (I : List Value -> au -> Prop) (μ : List Value -> au -> Nat), I x H ∧ ∀ w H, I w H -> ∀ _g : Nat -> Value, ∃ x0 : Int, ∃ x1 : Int, ∃ x2 : Int, ∃ x3 : Int, ∃ x4 : Int, w = [.int .i64 x0, .int .i64 x1, .int .i64 x2, .int .i64 x3, .int .i64 x4] ∧ B I μ w H x0 x1 x2 x3 x4
abbrev Lx (x : List Value) (H : au) (B : (List Value -> au -> Prop) -> (List Value -> au -> Nat) -> List Value -> au -> Int -> Option Addr -> Nat -> Nat -> Prop) : Prop := ∃ (I : List Value -> au -> Prop) (μ : List Value -> au -> Nat), I x H ∧ ∀ w H, I w H -> ∀ _g : Nat -> Value, ∃ x0 : Int, ∃ x1 : Option Addr, ∃ x2 : Nat, ∃ x3 : Nat, w = [.int .i64 x0, .slice x1 x2 x3] ∧ B I μ w H x0 x1 x2 x3
abbrev A8 (x : List Value) (H : au) (B : (List Value -> au -> Prop) -> (List Value -> au -> Nat) -> List Value -> au -> Int -> Option Addr -> Nat -> Nat -> Int -> Prop) : Prop := ∃ (I : List Value -> au -> Prop) (μ : List Value -> au -> Nat), I x H ∧ ∀ w H, I w H -> ∀ _g : Nat -> Value, ∃ x0 : Int, ∃ x1 : Option Addr, ∃ x2 : Nat, ∃ x3 : Nat, ∃ x4 : Int, w = [.int .i64 x0, .slice x1 x2 x3, .int .i64 x4] ∧ B I μ w H x0 x1 x2 x3 x4
abbrev Ly (x : List Value) (H : au) (B : (List Value -> au -> Prop) -> (List Value -> au -> Nat) -> List Value -> au -> Int -> ByteArray -> Prop) : Prop := ∃ (I : List Value -> au -> Prop) (μ : List Value -> au -> Nat), I x H ∧ ∀ w H, I w H -> ∀ _g : Nat -> Value, ∃ x0 : Int, ∃ x1 : ByteArray, w = [.int .i64 x0, .string x1] ∧ B I μ w H x0 x1
abbrev Ph (x : List Value) (H : au) (B : (List Value -> au -> Prop) -> (List Value -> au -> Nat) -> List Value -> au -> Option Addr -> Nat -> Nat -> Prop) : Prop := ∃ (I : List Value -> au -> Prop) (μ : List Value -> au -> Nat), I x H ∧ ∀ w H, I w H -> ∀ _g : Nat -> Value, ∃ x0 : Option Addr, ∃ x1 : Nat, ∃ x2 : Nat, w = [.slice x0 x1 x2] ∧ B I μ w H x0 x1 x2
abbrev cL (x : List Value) (H : au) (B : (List Value -> au -> Prop) -> (List Value -> au -> Nat) -> List Value -> au -> Option Addr -> Nat -> Nat -> Int -> Prop) : Prop := ∃ (I : List Value -> au -> Prop) (μ : List Value -> au -> Nat), I x H ∧ ∀ w H, I w H -> ∀ _g : Nat -> Value, ∃ x0 : Option Addr, ∃ x1 : Nat, ∃ x2 : Nat, ∃ x3 : Int, w = [.slice x0 x1 x2, .int .i64 x3] ∧ B I μ w H x0 x1 x2 x3
abbrev av (a : Option Addr) (l c : Nat) : Value := .slice a l c
abbrev bm (I : List Value -> au -> Prop) (μ : List Value -> au -> Nat) (x : List Value) (H : au) (w : List Value) (G : au) : Prop := I x H ∧ μ x H < μ w G
abbrev gS (r : Option Nat) : Value := .map r
abbrev aE (p : Option Addr) (K : Addr -> Prop) : Prop := ∃ q, p = some q ∧ K q
abbrev cD {α : Type} (p : Option α) : Bool := Option.isNone p
abbrev QW (b : Nat) : Value := .pointer (some ⟨b, 0, none⟩)
abbrev am (p : Option Addr) : Value := .pointer p
abbrev aJ (H : au) (x : Array Value) (t : TypeId) : au := H.push (.cells x t)
abbrev zz (x : Sem Value) (H : au) (K : Int -> au -> Prop) : Prop := cB PP x (fun v H => ∃ x0 : Int, v = .int .i64 x0 ∧ K x0 H) H
abbrev bM (x : Sem Value) (H : au) (K : Option Addr -> Nat -> Nat -> au -> Prop) : Prop := cB PP x (fun v H => ∃ x0 : Option Addr, ∃ x1 : Nat, ∃ x2 : Nat, v = .slice x0 x1 x2 ∧ K x0 x1 x2 H) H
abbrev Pi (x : Sem Value) (H : au) (K : Option Addr -> au -> Prop) : Prop := cB PP x (fun v H => ∃ x0 : Option Addr, v = .pointer x0 ∧ K x0 H) H
abbrev A9 (x : Sem Value) (H : au) (K : ByteArray -> au -> Prop) : Prop := cB PP x (fun v H => ∃ x0 : ByteArray, v = .string x0 ∧ K x0 H) H
abbrev cS {α : Type} (x : Sem α) (H : au) (K : au -> Prop) : Prop := cB PP x (fun _ H => K H) H
abbrev aO (s : ByteArray) : Value := .string s
abbrev ax {α : Type} (a : α) (f : α -> Prop) : Prop := f a
abbrev bj (H : au) (a : Addr) (v : Value) (K : au -> Prop) : Prop := Wr H a ∧ K (aQ H a v)
abbrev yi (x : Sem Value) (H : au) (K : Int -> Bool -> au -> Prop) : Prop := cB PP x (fun v H => ∃ x0 : Int, ∃ x1 : Bool, v = .tuple #[.int .i64 x0, .bool x1] ∧ K x0 x1 H) H
abbrev jb (i : Int) (s : ByteArray) (K : UInt8 -> Prop) : Prop := ∃ u : UInt8, ((0 : Int) <= i ∧ s[Int.toNat i]? = some u) ∧ K u
abbrev bJ (x : Array Value) : Value := .tuple x
abbrev aI (n : Int) : Int := IntKind.wrap .i64 n
theorem okL {f : FuncId} {fn : Func} (hf : PP.funcs[f]? = some fn) {c : Code} (hc : fn.body = some c) (Ls : xE) {args : Array Value} {Q : Value -> au -> Prop} {H : au} {X : Prop} (h : X) (hX : X = ev PP Ls c (QK PP fn Q) (om fn args) H := by kernel_rfl) (hn : (cu c && de c) = true := by kernel_rfl) : ag PP f args Q H := vd good hf hc hX h hn
theorem okF {f : FuncId} {fn : Func} (hf : PP.funcs[f]? = some fn) {c : Code} (hc : fn.body = some c) {args : Array Value} {Q : Value -> au -> Prop} {H : au} {X : Prop} (h : X) (hX : X = ev PP (fun _ => none) c (QK PP fn Q) (om fn args) H := by kernel_rfl) (hn : (cu c && de c) = true := by kernel_rfl) : ag PP f args Q H := vd good hf hc hX h hn
abbrev bl:Nat:=0
abbrev dF:Nat:=1
abbrev gY:Nat:=3
section
variable {Q:QT}{H:au}
variable {a b c d A B D P:Option Addr}{i j k m n x y z I J K M N:Int}{l o r s u v L O R S U V:Nat}{t w T W:ByteArray}{e E g:Bool}{q:Option Nat}{p X Y Z:Value}{F G:Addr}
theorem Nq (h:du 7 #[am a] H fun c d=>ah (cD c) (Q (aA 0 2) d) (ax (ac i) fun c=>A7 85 #[c] d fun d e=>pz (Instr.lookup 135 (gS d) (aO t) true) (fun d e=>∃ f:Int,ax (aN e.size 1) fun g=>ax (aA 0 1) fun i=>ax (some .nilFunc) fun k=>ax (av b l o) fun b=>ax (aL e.size) fun m=>ax (ac 0) fun n=>ax (aJ e #[n,.nilFunc] 133) fun e=>ax (ac j) fun j=>ax (aA 0 170) fun o=>ax (ac f) fun f=>(∃ p,∃ q r:Array Value,∃ s,d=bJ #[aZ #[f,.func (.func p) q r],aP s]∧bj e m f fun d=>bj d g (.func (.func p) q r) fun d=>ah (!s) (Q i d) (nX d g (fun _ _ _=>ay d m fun e=>ah ((l:Int) != e) (Q i d) (ax (aL d.size) fun e=>bj (aJ d #[am none,n,av none 0 0] 138) e (am a) fun a=>ax (aN d.size 1) fun f=>bj a f j fun a=>ax (aN d.size 2) fun d=>bj a d b fun a=>bM (Builtin.append_ #[30,30] 30 #[av (some (aL a.size)) 1 1,b]) (aJ a #[j] 26) fun a b _ l=>bX [n] l fun l m n p q=>ah (aX q (b:Int)) (bf q b a fun a=>ay p (bc a q 1) fun a=>aF p e fun b=>ay p f fun c=>aK p d fun d e f=>aC 86 #[aZ #[am b,ac c,av d e f],ac a] p fun a b=>ah (a == 0) (Q i b) (bm l m [ac (aI (q+1))] b n p)) (aF p e fun a=>ay p f fun b=>aK p d fun i l m=>bk 87 #[aZ #[am a,ac b,av i l m],j,c] p fun a b=>ah (!a) (Q o b) (aF b e fun a=>ay b f fun i=>aK b d fun j l m=>bk 88 #[aZ #[am a,ac i,av j l m],c] b fun a b=>ah (!a) (Q o b) (nX b g (fun a c g=>aF b e fun e=>ay b f fun f=>aK b d fun d i j=>ak a (c++#[aZ #[am e,ac f,av d i j]]++g) b fun a b c=>Q (aA a b) c)∨aq b g=k∧aF b e fun _=>ay b f fun _=>aK b d fun _ _ _=>False)))))∨aq d g=k∧Q i d))∨(∃ p,d=bJ #[aZ #[f,.nilFunc],aP p]∧bj e m f fun d=>bj d g .nilFunc fun d=>ah (!p) (Q i d) (nX d g (fun _ _ _=>ay d m fun e=>ah ((l:Int) != e) (Q i d) (ax (aL d.size) fun e=>bj (aJ d #[am none,n,av none 0 0] 138) e (am a) fun a=>ax (aN d.size 1) fun f=>bj a f j fun a=>ax (aN d.size 2) fun d=>bj a d b fun a=>bM (Builtin.append_ #[30,30] 30 #[av (some (aL a.size)) 1 1,b]) (aJ a #[j] 26) fun a b _ l=>bX [n] l fun l m n p q=>ah (aX q (b:Int)) (bf q b a fun a=>ay p (bc a q 1) fun a=>aF p e fun b=>ay p f fun c=>aK p d fun d e f=>aC 86 #[aZ #[am b,ac c,av d e f],ac a] p fun a b=>ah (a == 0) (Q i b) (bm l m [ac (aI (q+1))] b n p)) (aF p e fun a=>ay p f fun b=>aK p d fun i l m=>bk 87 #[aZ #[am a,ac b,av i l m],j,c] p fun a b=>ah (!a) (Q o b) (aF b e fun a=>ay b f fun i=>aK b d fun j l m=>bk 88 #[aZ #[am a,ac i,av j l m],c] b fun a b=>ah (!a) (Q o b) (nX b g (fun a c g=>aF b e fun e=>ay b f fun f=>aK b d fun d i j=>ak a (c++#[aZ #[am e,ac f,av d i j]]++g) b fun a b c=>Q (aA a b) c)∨aq b g=k∧aF b e fun _=>ay b f fun _=>aK b d fun _ _ _=>False)))))∨aq d g=k∧Q i d))) e)):ag PP 30 #[.pointer a,ac i,.string t,ac j,.slice b l o] Q H :=
 okL Tryz.func30 rfl (fun | 8=>some [(50,3)] | _=>none) h
theorem Ny (h:ax (ac 1) fun a=>ax (ac 0) fun b=>ax (aZ #[a,.func (.func 171) #[] #[]]) fun c=>ax (aO (⟨#[61]⟩:ByteArray)) fun d=>ax (aZ #[a,.func (.func 172) #[] #[]]) fun e=>ah (i == 4) (ax (gS (some H.size)) fun f=>cS (Instr.mapUpdate 135 f (aO (⟨#[61,61]⟩:ByteArray)) c) (H.push (.map #[] 0)) fun g=>cS (Instr.mapUpdate 135 f d c) g fun c=>cS (Instr.mapUpdate 135 f (aO (⟨#[126,126]⟩:ByteArray)) e) c fun c=>cS (Instr.mapUpdate 135 f (aO (⟨#[99,108,97,115,115]⟩:ByteArray)) (aZ #[b,.func (.func 173) #[] #[]])) c fun c=>cS (Instr.mapUpdate 135 f (aO (⟨#[105,115,78,105,108]⟩:ByteArray)) (aZ #[b,.func (.func 174) #[] #[]])) c fun c=>cS (Instr.mapUpdate 135 f (aO (⟨#[110,111,116,78,105,108]⟩:ByteArray)) (aZ #[b,.func (.func 175) #[] #[]])) c fun c=>cS (Instr.mapUpdate 135 f (aO (⟨#[121,111,117,114,115,101,108,102]⟩:ByteArray)) (aZ #[b,.func (.func 176) #[] #[]])) c fun c=>cS (Instr.mapUpdate 135 f (aO (⟨#[105,115,75,105,110,100,79,102,58]⟩:ByteArray)) (aZ #[a,.func (.func 177) #[] #[]])) c fun c=>cS (Instr.mapUpdate 135 f (aO (⟨#[105,110,115,116,86,97,114,83,105,122,101]⟩:ByteArray)) (aZ #[b,.func (.func 178) #[] #[]])) c fun c=>cS (Instr.mapUpdate 135 f (aO (⟨#[105,110,115,116,86,97,114,65,116,58]⟩:ByteArray)) (aZ #[a,.func (.func 179) #[] #[]])) c fun a=>cS (Instr.mapUpdate 135 f (aO (⟨#[105,110,115,116,86,97,114,65,116,58,112,117,116,58]⟩:ByteArray)) (aZ #[ac 2,.func (.func 179) #[] #[]])) a fun a=>cS (Instr.mapUpdate 135 f (aO (⟨#[99,111,112,121]⟩:ByteArray)) (aZ #[b,.func (.func 180) #[] #[]])) a fun a=>Q f a) (rL (fun a=>ah (i == 7) (a [aP true] H) (a [aP (i == 6)] H)) fun f g=>ah f (A7 181 #[] g fun a b=>Q (gS a) b) (ax (gS (some g.size)) fun f=>ax (g.push (.map #[] 0)) fun j=>ax (aO (⟨#[60]⟩:ByteArray)) fun k=>ah (i == 8) (iS 182 #[.func (.func 183) #[] #[]] j fun g i j l=>cS (Instr.mapUpdate 135 f (aO (⟨#[43]⟩:ByteArray)) (aZ #[a,.func (.func g) i j])) l fun g=>iS 182 #[.func (.func 184) #[] #[]] g fun g i j l=>cS (Instr.mapUpdate 135 f (aO (⟨#[45]⟩:ByteArray)) (aZ #[a,.func (.func g) i j])) l fun g=>iS 182 #[.func (.func 185) #[] #[]] g fun g i j l=>cS (Instr.mapUpdate 135 f (aO (⟨#[42]⟩:ByteArray)) (aZ #[a,.func (.func g) i j])) l fun g=>iS 182 #[.func (.func 186) #[] #[]] g fun g i j l=>cS (Instr.mapUpdate 135 f (aO (⟨#[47,47]⟩:ByteArray)) (aZ #[a,.func (.func g) i j])) l fun g=>iS 182 #[.func (.func 187) #[] #[]] g fun g i j l=>cS (Instr.mapUpdate 135 f (aO (⟨#[92,92]⟩:ByteArray)) (aZ #[a,.func (.func g) i j])) l fun g=>iS 182 #[.func (.func 188) #[] #[]] g fun g i j l=>cS (Instr.mapUpdate 135 f (aO (⟨#[98,105,116,65,110,100,58]⟩:ByteArray)) (aZ #[a,.func (.func g) i j])) l fun g=>iS 182 #[.func (.func 189) #[] #[]] g fun g i j l=>cS (Instr.mapUpdate 135 f (aO (⟨#[98,105,116,79,114,58]⟩:ByteArray)) (aZ #[a,.func (.func g) i j])) l fun g=>iS 182 #[.func (.func 190) #[] #[]] g fun g i j l=>cS (Instr.mapUpdate 135 f (aO (⟨#[98,105,116,88,111,114,58]⟩:ByteArray)) (aZ #[a,.func (.func g) i j])) l fun g=>iS 182 #[.func (.func 191) #[] #[]] g fun g i j l=>cS (Instr.mapUpdate 135 f (aO (⟨#[98,105,116,83,104,105,102,116,58]⟩:ByteArray)) (aZ #[a,.func (.func g) i j])) l fun g=>iS 192 #[.func (.func 193) #[] #[]] g fun g i j l=>cS (Instr.mapUpdate 135 f k (aZ #[a,.func (.func g) i j])) l fun g=>iS 192 #[.func (.func 194) #[] #[]] g fun g i j k=>cS (Instr.mapUpdate 135 f (aO (⟨#[62]⟩:ByteArray)) (aZ #[a,.func (.func g) i j])) k fun g=>iS 192 #[.func (.func 195) #[] #[]] g fun g i j k=>cS (Instr.mapUpdate 135 f (aO (⟨#[60,61]⟩:ByteArray)) (aZ #[a,.func (.func g) i j])) k fun g=>iS 192 #[.func (.func 196) #[] #[]] g fun g i j k=>cS (Instr.mapUpdate 135 f (aO (⟨#[62,61]⟩:ByteArray)) (aZ #[a,.func (.func g) i j])) k fun g=>iS 182 #[.func (.func 197) #[] #[]] g fun g i j k=>cS (Instr.mapUpdate 135 f (aO (⟨#[109,105,110,58]⟩:ByteArray)) (aZ #[a,.func (.func g) i j])) k fun g=>iS 182 #[.func (.func 198) #[] #[]] g fun g i j k=>cS (Instr.mapUpdate 135 f (aO (⟨#[109,97,120,58]⟩:ByteArray)) (aZ #[a,.func (.func g) i j])) k fun a=>cS (Instr.mapUpdate 135 f d c) a fun a=>cS (Instr.mapUpdate 135 f (aO (⟨#[126,61]⟩:ByteArray)) e) a fun a=>cS (Instr.mapUpdate 135 f (aO (⟨#[110,101,103,97,116,101,100]⟩:ByteArray)) (aZ #[b,.func (.func 199) #[] #[]])) a fun a=>cS (Instr.mapUpdate 135 f (aO (⟨#[97,98,115]⟩:ByteArray)) (aZ #[b,.func (.func 200) #[] #[]])) a fun a=>cS (Instr.mapUpdate 135 f (aO (⟨#[101,118,101,110]⟩:ByteArray)) (aZ #[b,.func (.func 201) #[] #[]])) a fun a=>cS (Instr.mapUpdate 135 f (aO (⟨#[111,100,100]⟩:ByteArray)) (aZ #[b,.func (.func 202) #[] #[]])) a fun a=>cS (Instr.mapUpdate 135 f (aO (⟨#[112,114,105,110,116,83,116,114,105,110,103]⟩:ByteArray)) (aZ #[b,.func (.func 203) #[] #[]])) a fun a=>Q f a) (ax (aO (⟨#[115,105,122,101]⟩:ByteArray)) fun c=>ah (i == 9) (cS (Instr.mapUpdate 135 f c (aZ #[b,.func (.func 204) #[] #[]])) j fun c=>cS (Instr.mapUpdate 135 f (aO (⟨#[97,115,83,116,114,105,110,103]⟩:ByteArray)) (aZ #[b,.func (.func 205) #[] #[]])) c fun b=>cS (Instr.mapUpdate 135 f k (aZ #[a,.func (.func 206) #[] #[]])) b fun a=>Q f a) (ax (Instr.mapUpdate 135 f (aO (⟨#[105,115,69,109,112,116,121]⟩:ByteArray)) (aZ #[b,.func (.func 208) #[] #[]])) fun e=>ax (Instr.mapUpdate 135 f c (aZ #[b,.func (.func 207) #[] #[]])) fun c=>ax (aO (⟨#[97,116,58,112,117,116,58]⟩:ByteArray)) fun l=>ax (aO (⟨#[97,116,58]⟩:ByteArray)) fun m=>ah (i == 10) (cS c j fun c=>cS e c fun c=>cS (Instr.mapUpdate 135 f m (aZ #[a,.func (.func 209) #[] #[]])) c fun c=>cS (Instr.mapUpdate 135 f l (aZ #[ac 2,.func (.func 210) #[] #[]])) c fun c=>cS (Instr.mapUpdate 135 f (aO (⟨#[44]⟩:ByteArray)) (aZ #[a,.func (.func 211) #[] #[]])) c fun c=>cS (Instr.mapUpdate 135 f d (aZ #[a,.func (.func 212) #[] #[]])) c fun c=>cS (Instr.mapUpdate 135 f k (aZ #[a,.func (.func 213) #[] #[]])) c fun a=>cS (Instr.mapUpdate 135 f (aO (⟨#[97,115,83,121,109,98,111,108]⟩:ByteArray)) (aZ #[b,.func (.func 214) #[] #[]])) a fun a=>Q f a) (ah (i == 11) (cS c j fun b=>cS e b fun b=>cS (Instr.mapUpdate 135 f m (aZ #[a,.func (.func 215) #[] #[]])) b fun a=>cS (Instr.mapUpdate 135 f l (aZ #[ac 2,.func (.func 215) #[] #[]])) a fun a=>Q f a) (ah (i == 12) (cS (Instr.mapUpdate 135 f (aO (⟨#[110,101,119]⟩:ByteArray)) (aZ #[b,.func (.func 216) #[] #[]])) j fun c=>cS (Instr.mapUpdate 135 f (aO (⟨#[110,101,119,58]⟩:ByteArray)) (aZ #[a,.func (.func 217) #[] #[]])) c fun c=>iS 218 #[b] c fun c d e g=>cS (Instr.mapUpdate 135 f (aO (⟨#[110,97,109,101]⟩:ByteArray)) (aZ #[b,.func (.func c) d e])) g fun c=>iS 218 #[a] c fun a c d e=>cS (Instr.mapUpdate 135 f (aO (⟨#[115,117,112,101,114,99,108,97,115,115]⟩:ByteArray)) (aZ #[b,.func (.func a) c d])) e fun a=>Q f a) (ah (i == 14) (A7 219 #[] g fun a b=>Q (gS a) b) (ah (i == 17) (iS 218 #[b] j fun c d e g=>cS (Instr.mapUpdate 135 f (aO (⟨#[115,101,108,101,99,116,111,114]⟩:ByteArray)) (aZ #[b,.func (.func c) d e])) g fun c=>iS 218 #[a] c fun a c d e=>cS (Instr.mapUpdate 135 f (aO (⟨#[97,114,103,117,109,101,110,116,115]⟩:ByteArray)) (aZ #[b,.func (.func a) c d])) e fun a=>Q f a) (Q (gS none) g)))))))))):ag PP 85 #[ac i] Q H :=
 okL Tryz.func85 rfl (fun | 1006=>some [(20,4)] | _=>none) h
theorem L3 (h:ax (aJ H #[am a,ac i,av b l o] 138) fun a=>aF a (aL H.size) fun b=>ak 220 #[am b,ac j] a fun a b c=>ah (b != 0) (Q (ac 0) c) (Q (ac a) c)):ag PP 86 #[.agg #[.pointer a,ac i,.slice b l o],ac j] Q H :=
 okF Tryz.func86 rfl h
theorem MM (h:ax (aJ H #[am a,ac i,av b l o] 138) fun a=>aF a (aL H.size) fun b=>ay a (aN H.size 1) fun c=>aK a (aN H.size 2) fun d e f=>aC 86 #[aZ #[am b,ac c,av d e f],ac j] a fun a b=>bX [ac a] b fun a b c d e=>ah (e != 0) (ah (e == k) (Q (aP true) d) (aF d (aL H.size) fun f=>ak 221 #[am f,ac e] d fun e f g=>ah (f != 0) (Q (aP false) g) (bm a b [ac e] g c d))) (Q (aP false) d)):ag PP 87 #[.agg #[.pointer a,ac i,.slice b l o],ac j,ac k] Q H :=
 okL Tryz.func87 rfl (fun | 2=>some [(7,3)] | _=>none) h
theorem MP (h:ax (aJ H #[am a,ac i,av b l o] 138) fun a=>aF a (aL H.size) fun b=>ax (aN H.size 1) fun c=>ay a c fun d=>aK a (aN H.size 2) fun e f g=>ay a c fun i=>ak 222 #[aZ #[am b,ac d,av e f g],ac i] a fun a _ b=>ah (j == 12) (Q (aP (a == 7)) b) (ah (j == 14) (ah (a == 6) (aF b (aL H.size) fun a=>ay b c fun d=>aK b (aN H.size 2) fun e f g=>ay b c fun c=>aC 223 #[aZ #[am a,ac d,av e f g],ac c,ac 4] b fun a b=>aC 13 #[ac a] b fun a b=>Q (aP (a == 1)) b) (Q (aP false) b)) (ah (j == 17) (Q (aP (a == 2)) b) (Q (aP true) b)))):ag PP 88 #[.agg #[.pointer a,ac i,.slice b l o],ac j] Q H :=
 okF Tryz.func88 rfl h
theorem KE (h:ax (aJ H #[am a,ac i,av b l o] 138) fun a=>ay a (aN H.size 1) fun b=>aK a (aN H.size 2) fun c d _=>bf 0 d c fun c=>ay a (bc c 0 1) fun c=>ak 286 #[aP (b == c)] a fun a b c=>True∧Q (aA a b) c):ag PP 171 #[.agg #[.pointer a,ac i,.slice b l o]] Q H :=
 okF Tryz.func171 rfl h
theorem EB (h:ax (aJ H #[am a,ac i,av b l o] 138) fun a=>ay a (aN H.size 1) fun b=>aK a (aN H.size 2) fun c d _=>bf 0 d c fun c=>ay a (bc c 0 1) fun c=>ak 286 #[aP (b != c)] a fun a b c=>True∧Q (aA a b) c):ag PP 172 #[.agg #[.pointer a,ac i,.slice b l o]] Q H :=
 okF Tryz.func172 rfl h
theorem Hv (h:ax (aJ H #[am a,ac i,av b l o] 138) fun a=>aF a (aL H.size) fun b=>ay a (aN H.size 1) fun c=>aK a (aN H.size 2) fun d e f=>ay a (aN H.size 1) fun g=>aC 86 #[aZ #[am b,ac c,av d e f],ac g] a fun a b=>ak 84 #[ac a] b fun a b c=>Q (aA a b) c):ag PP 173 #[.agg #[.pointer a,ac i,.slice b l o]] Q H :=
 okF Tryz.func173 rfl h
theorem HN (h:ax (aJ H #[am a,ac i,av b l o] 138) fun a=>ay a (aN H.size 1) fun b=>ak 286 #[aP (b == 4)] a fun a b c=>Q (aA a b) c):ag PP 174 #[.agg #[.pointer a,ac i,.slice b l o]] Q H :=
 okF Tryz.func174 rfl h
theorem Lj (h:ax (aJ H #[am a,ac i,av b l o] 138) fun a=>ay a (aN H.size 1) fun b=>ak 286 #[aP (b != 4)] a fun a b c=>Q (aA a b) c):ag PP 175 #[.agg #[.pointer a,ac i,.slice b l o]] Q H :=
 okF Tryz.func175 rfl h
theorem E5 (h:ax (aJ H #[am a,ac i,av b l o] 138) fun a=>ay a (aN H.size 1) fun b=>Q (aA b 0) a):ag PP 176 #[.agg #[.pointer a,ac i,.slice b l o]] Q H :=
 okF Tryz.func176 rfl h
theorem IF (h:ax (aJ H #[am a,ac i,av b l o] 138) fun a=>aF a (aL H.size) fun b=>ax (aN H.size 1) fun c=>ay a c fun d=>ax (aN H.size 2) fun e=>aK a e fun f g i=>aK a e fun j k _=>bf 0 k j fun j=>ay a (bc j 0 1) fun j=>aC 86 #[aZ #[am b,ac d,av f g i],ac j] a fun a b=>True∧ah (a != 12) (Q (aA 0 170) b) (aK b e fun a d _=>bf 0 d a fun a=>ay b (bc a 0 1) fun a=>ak 89 #[ac a] b fun a _ b=>aF b (aL H.size) fun d=>ay b c fun f=>aK b e fun e g i=>ay b c fun c=>bk 87 #[aZ #[am d,ac f,av e g i],ac c,ac a] b fun a b=>ak 286 #[aP a] b fun a b c=>Q (aA a b) c)):ag PP 177 #[.agg #[.pointer a,ac i,.slice b l o]] Q H :=
 okF Tryz.func177 rfl h
theorem IP (h:ax (aJ H #[am a,ac i,av b l o] 138) fun a=>aF a (aL H.size) fun b=>ay a (aN H.size 1) fun c=>aK a (aN H.size 2) fun d e f=>aC 287 #[aZ #[am b,ac c,av d e f]] a fun a b=>ak 268 #[ac a] b fun a b c=>Q (aA a b) c):ag PP 178 #[.agg #[.pointer a,ac i,.slice b l o]] Q H :=
 okF Tryz.func178 rfl h
theorem DJ (h:ax (aJ H #[am a,ac i,av b l o] 138) fun a=>ax (aL H.size) fun b=>aF a b fun c=>ax (aN H.size 1) fun d=>ay a d fun e=>ax (aN H.size 2) fun f=>aK a f fun g i j=>aF a b fun k=>ay a d fun l=>aK a f fun m n o=>aC 287 #[aZ #[am k,ac l,av m n o]] a fun a k=>((aq k b=some (am c)∧aq k d=some (ac e)∧aq k f=some (av g i j)∧True)∧True)∧ak 288 #[aZ #[am c,ac e,av g i j],ac a] k fun a b c=>True∧Q (aA a b) c):ag PP 179 #[.agg #[.pointer a,ac i,.slice b l o]] Q H :=
 okF Tryz.func179 rfl h
theorem Gb (h:ax (aJ H #[am a,ac i,av b l o] 138) fun a=>ax (aL H.size) fun b=>aF a b fun c=>ax (aN H.size 1) fun d=>ay a d fun e=>ax (aN H.size 2) fun f=>aK a f fun g i j=>ay a d fun k=>aC 86 #[aZ #[am c,ac e,av g i j],ac k] a fun a c=>aF c b fun e=>ay c d fun g=>aK c f fun i j k=>ay c d fun l=>ak 222 #[aZ #[am e,ac g,av i j k],ac l] c fun c e g=>ax (ac e) fun e=>ax (ac a) fun i=>ah (a == 10) (aF g b fun a=>ay g d fun c=>aK g f fun j k l=>aF g b fun m=>ay g d fun n=>aK g f fun o p q=>ay g d fun r=>cq 291 #[aZ #[am m,ac n,av o p q],ac r] g fun g m n o=>((aq o b=some (am a)∧aq o d=some (ac c)∧aq o f=some (av j k l)∧True)∧True)∧ak 290 #[aZ #[am a,ac c,av j k l],i,e,av g m n] o fun a b c=>True∧Q (aA a b) c) (ah (a == 11) (ah (bP c 0) (aF g b fun a=>ay g d fun c=>aK g f fun j k l=>aF g b fun m=>ay g d fun n=>aK g f fun o p q=>ay g d fun r=>cq 291 #[aZ #[am m,ac n,av o p q],ac r] g fun g m n o=>((aq o b=some (am a)∧aq o d=some (ac c)∧aq o f=some (av j k l)∧True)∧True)∧ak 290 #[aZ #[am a,ac c,av j k l],i,e,av g m n] o fun a b c=>True∧Q (aA a b) c) (aF g b fun a=>ay g d fun c=>aK g f fun j k l=>ay g d fun m=>bk 289 #[aZ #[am a,ac c,av j k l],ac m] g fun a c=>ah a (aF c b fun a=>ay c d fun g=>aK c f fun j k l=>aF c b fun m=>ay c d fun n=>aK c f fun o p q=>ay c d fun r=>cq 291 #[aZ #[am m,ac n,av o p q],ac r] c fun c m n o=>((aq o b=some (am a)∧aq o d=some (ac g)∧aq o f=some (av j k l)∧True)∧True)∧ak 290 #[aZ #[am a,ac g,av j k l],i,e,av c m n] o fun a b c=>True∧Q (aA a b) c) (ay c d fun a=>Q (aA a 0) c))) (aF g b fun a=>ay g d fun c=>aK g f fun j k l=>ay g d fun m=>bk 289 #[aZ #[am a,ac c,av j k l],ac m] g fun a c=>ah a (aF c b fun a=>ay c d fun g=>aK c f fun j k l=>aF c b fun m=>ay c d fun n=>aK c f fun o p q=>ay c d fun r=>cq 291 #[aZ #[am m,ac n,av o p q],ac r] c fun c m n o=>((aq o b=some (am a)∧aq o d=some (ac g)∧aq o f=some (av j k l)∧True)∧True)∧ak 290 #[aZ #[am a,ac g,av j k l],i,e,av c m n] o fun a b c=>True∧Q (aA a b) c) (ay c d fun a=>Q (aA a 0) c)))):ag PP 180 #[.agg #[.pointer a,ac i,.slice b l o]] Q H :=
 okF Tryz.func180 rfl h
theorem Kk (h:ax (gS (some H.size)) fun a=>cS (Instr.mapUpdate 135 a (aO (⟨#[110,111,116]⟩:ByteArray)) (aZ #[ac 0,.func (.func 292) #[] #[]])) (H.push (.map #[] 0)) fun b=>ax (aZ #[ac 1,.func (.func 293) #[] #[]]) fun c=>cS (Instr.mapUpdate 135 a (aO (⟨#[38]⟩:ByteArray)) c) b fun b=>cS (Instr.mapUpdate 135 a (aO (⟨#[97,110,100,58]⟩:ByteArray)) c) b fun b=>cS (Instr.mapUpdate 135 a (aO (⟨#[111,114,58]⟩:ByteArray)) (aZ #[ac 1,.func (.func 294) #[] #[]])) b fun b=>Q a b):ag PP 181 #[] Q H :=
 okF Tryz.func181 rfl h
theorem Kt {g0:Array Value}{h0:Array Value}(h:Q (.func (.func 295) #[] #[am (some (aL H.size))]) (aJ H #[.func (.func l) g0 h0] 223)):ag PP 182 #[.func (.func l) g0 h0] Q H :=
 okF Tryz.func182 rfl h
theorem Eo {g0:Array Value}{h0:Array Value}(h:Q (.func (.func 299) #[] #[am (some (aL H.size))]) (aJ H #[.func (.func l) g0 h0] 53)):ag PP 192 #[.func (.func l) g0 h0] Q H :=
 okF Tryz.func192 rfl h
theorem Hj (h:Q (aP (aX i j)) H):ag PP 193 #[ac i,ac j] Q H :=
 okF Tryz.func193 rfl h
theorem Hw (h:Q (aP (bP i j)) H):ag PP 194 #[ac i,ac j] Q H :=
 okF Tryz.func194 rfl h
theorem Lc (h:Q (aP (decide (i<=j))) H):ag PP 195 #[ac i,ac j] Q H :=
 okF Tryz.func195 rfl h
theorem EX (h:Q (aP (decide (i≥j))) H):ag PP 196 #[ac i,ac j] Q H :=
 okF Tryz.func196 rfl h
theorem Io (h:Q (aA (if j<i then j else i) 0) H):ag PP 197 #[ac i,ac j] Q H :=
 okF Tryz.func197 rfl h
theorem IG (h:Q (aA (if i<j then j else i) 0) H):ag PP 198 #[ac i,ac j] Q H :=
 okF Tryz.func198 rfl h
theorem Dx (h:ax (aJ H #[am a,ac i,av b l o] 138) fun a=>aF a (aL H.size) fun b=>ay a (aN H.size 1) fun c=>aK a (aN H.size 2) fun d e f=>aC 300 #[aZ #[am b,ac c,av d e f]] a fun a b=>ak 184 #[ac 0,ac a] b fun a b c=>ah (b != 0) (Q (aA 0 b) c) (ak 268 #[ac a] c fun a b c=>Q (aA a b) c)):ag PP 199 #[.agg #[.pointer a,ac i,.slice b l o]] Q H :=
 okF Tryz.func199 rfl h
theorem FM (h:ax (aJ H #[am a,ac i,av b l o] 138) fun a=>aF a (aL H.size) fun b=>ax (aN H.size 1) fun c=>ay a c fun d=>aK a (aN H.size 2) fun e f g=>aC 300 #[aZ #[am b,ac d,av e f g]] a fun a b=>ah (aX a 0) (aF b (aL H.size) fun a=>ay b c fun c=>aK b (aN H.size 2) fun d e f=>ak 199 #[aZ #[am a,ac c,av d e f]] b fun a b c=>Q (aA a b) c) (ay b c fun a=>Q (aA a 0) b)):ag PP 200 #[.agg #[.pointer a,ac i,.slice b l o]] Q H :=
 okF Tryz.func200 rfl h
theorem I1 (h:ax (aJ H #[am a,ac i,av b l o] 138) fun a=>aF a (aL H.size) fun b=>ay a (aN H.size 1) fun c=>aK a (aN H.size 2) fun d e f=>aC 300 #[aZ #[am b,ac c,av d e f]] a fun a b=>ak 286 #[aP (nS .i64 a 1 == 0)] b fun a b c=>Q (aA a b) c):ag PP 201 #[.agg #[.pointer a,ac i,.slice b l o]] Q H :=
 okF Tryz.func201 rfl h
theorem Km (h:ax (aJ H #[am a,ac i,av b l o] 138) fun a=>aF a (aL H.size) fun b=>ay a (aN H.size 1) fun c=>aK a (aN H.size 2) fun d e f=>aC 300 #[aZ #[am b,ac c,av d e f]] a fun a b=>ak 286 #[aP (nS .i64 a 1 == 1)] b fun a b c=>Q (aA a b) c):ag PP 202 #[.agg #[.pointer a,ac i,.slice b l o]] Q H :=
 okF Tryz.func202 rfl h
theorem Ee (h:ax (aJ H #[am a,ac i,av b l o] 138) fun a=>aF a (aL H.size) fun b=>ay a (aN H.size 1) fun c=>aK a (aN H.size 2) fun d e f=>aC 300 #[aZ #[am b,ac c,av d e f]] a fun a b=>eb 301 #[ac a] b fun a _ b=>aF b (aL H.size) fun c=>ay b (aN H.size 1) fun d=>aK b (aN H.size 2) fun e f g=>ak 302 #[aZ #[am c,ac d,av e f g],aO a] b fun a b c=>Q (aA a b) c):ag PP 203 #[.agg #[.pointer a,ac i,.slice b l o]] Q H :=
 okF Tryz.func203 rfl h
theorem GR (h:ax (aJ H #[am a,ac i,av b l o] 138) fun a=>aF a (aL H.size) fun b=>ay a (aN H.size 1) fun c=>aK a (aN H.size 2) fun d e f=>ay a (aN H.size 1) fun g=>eI 303 #[aZ #[am b,ac c,av d e f],ac g] a fun a b=>ak 268 #[ac (a.size:Int)] b fun a b c=>Q (aA a b) c):ag PP 204 #[.agg #[.pointer a,ac i,.slice b l o]] Q H :=
 okF Tryz.func204 rfl h
theorem KN (h:ax (aJ H #[am a,ac i,av b l o] 138) fun a=>ax (aL H.size) fun b=>aF a b fun c=>ax (aN H.size 1) fun d=>ay a d fun e=>ax (aN H.size 2) fun f=>aK a f fun g i j=>aF a b fun k=>ay a d fun l=>aK a f fun m n o=>ay a d fun p=>eI 303 #[aZ #[am k,ac l,av m n o],ac p] a fun a k=>((aq k b=some (am c)∧aq k d=some (ac e)∧aq k f=some (av g i j)∧True)∧True)∧ak 302 #[aZ #[am c,ac e,av g i j],aO a] k fun a b c=>True∧Q (aA a b) c):ag PP 205 #[.agg #[.pointer a,ac i,.slice b l o]] Q H :=
 okF Tryz.func205 rfl h
theorem K3 (h:ax (aJ H #[am a,ac i,av b l o] 138) fun a=>ax (aN H.size 2) fun b=>aK a b fun c d _=>bf 0 d c fun c=>ay a (bc c 0 1) fun c=>aC 13 #[ac c] a fun a c=>ah (a != 2) (Q (aA 0 170) c) (ax (aL H.size) fun a=>aF c a fun d=>ax (aN H.size 1) fun e=>ay c e fun f=>aK c b fun g i j=>ay c e fun k=>aF c a fun l=>ay c e fun m=>aK c b fun n o p=>aK c b fun q r s=>bf 0 r q fun t=>ay c (bc t 0 1) fun u=>eI 303 #[aZ #[am d,ac f,av g i j],ac k] c fun c d=>((aq d (bc t 0 1)=some (ac u)∧True)∧ax (aq d b) fun b=>(b=some (av q r s)∧True)∧(aq d a=some (am l)∧aq d e=some (ac m)∧b=some (av n o p)∧True)∧True)∧eI 303 #[aZ #[am l,ac m,av n o p],ac u] d fun a b=>True∧ak 286 #[aP (Op.bytesLess (ByteArray.toList c) (ByteArray.toList a))] b fun a b c=>True∧Q (aA a b) c)):ag PP 206 #[.agg #[.pointer a,ac i,.slice b l o]] Q H :=
 okF Tryz.func206 rfl h
theorem EP (h:ax (aJ H #[am a,ac i,av b l o] 138) fun a=>aF a (aL H.size) fun b=>ay a (aN H.size 1) fun c=>aK a (aN H.size 2) fun d e f=>ay a (aN H.size 1) fun g=>ak 222 #[aZ #[am b,ac c,av d e f],ac g] a fun a _ b=>ak 268 #[ac a] b fun a b c=>Q (aA a b) c):ag PP 207 #[.agg #[.pointer a,ac i,.slice b l o]] Q H :=
 okF Tryz.func207 rfl h
theorem HZ (h:ax (aJ H #[am a,ac i,av b l o] 138) fun a=>aF a (aL H.size) fun b=>ay a (aN H.size 1) fun c=>aK a (aN H.size 2) fun d e f=>ay a (aN H.size 1) fun g=>ak 222 #[aZ #[am b,ac c,av d e f],ac g] a fun a _ b=>ak 286 #[aP (a == 0)] b fun a b c=>Q (aA a b) c):ag PP 208 #[.agg #[.pointer a,ac i,.slice b l o]] Q H :=
 okF Tryz.func208 rfl h
theorem Ip (h:ax (aJ H #[am a,ac i,av b l o] 138) fun a=>ax (aL H.size) fun b=>aF a b fun c=>ax (aN H.size 1) fun d=>ay a d fun e=>ax (aN H.size 2) fun f=>aK a f fun g i j=>ay a d fun k=>ak 222 #[aZ #[am c,ac e,av g i j],ac k] a fun a _ c=>aF c b fun e=>ay c d fun g=>aK c f fun i j k=>ak 304 #[aZ #[am e,ac g,av i j k],ac a] c fun a c e=>ah (c != 0) (Q (aA 0 c) e) (aF e b fun b=>ay e d fun c=>aK e f fun f g i=>ay e d fun d=>aC 223 #[aZ #[am b,ac c,av f g i],ac d,ac a] e fun a b=>ak 268 #[ac a] b fun a b c=>Q (aA a b) c)):ag PP 209 #[.agg #[.pointer a,ac i,.slice b l o]] Q H :=
 okF Tryz.func209 rfl h
theorem Dk (h:ax (aJ H #[am a,ac i,av b l o] 138) fun a=>ax (aL H.size) fun b=>aF a b fun c=>ax (aN H.size 1) fun d=>ay a d fun e=>ax (aN H.size 2) fun f=>aK a f fun g i j=>ay a d fun k=>ak 222 #[aZ #[am c,ac e,av g i j],ac k] a fun a _ c=>aF c b fun e=>ay c d fun g=>aK c f fun i j k=>ak 304 #[aZ #[am e,ac g,av i j k],ac a] c fun a c e=>aK e f fun g i _=>bf 1 i g fun g=>ay e (bc g 1 1) fun g=>ak 274 #[ac g] e fun e g i=>ax (aA 0 170) fun j=>ah (c == 170) (Q j i) (ah (g != 0) (Q j i) (ah (aX e 0) (Q j i) (ah (bP e 255) (Q j i) (ah (c != 0) (Q (aA 0 c) i) (aK i f fun c g j=>bf 1 g c fun k=>ay i (bc k 1 1) fun l=>aF i b fun b=>ay i d fun m=>aK i f fun n o p=>ay i d fun d=>aC 305 #[aZ #[am b,ac m,av n o p],ac d,ac a,ac e] i fun a b=>((aq b (bc k 1 1)=some (ac l)∧True)∧(aq b f=some (av c g j)∧True)∧True)∧Q (aA l a) b)))))):ag PP 210 #[.agg #[.pointer a,ac i,.slice b l o]] Q H :=
 okF Tryz.func210 rfl h
theorem Fw (h:ax (aJ H #[am a,ac i,av b l o] 138) fun a=>aF a (aL H.size) fun b=>ay a (aN H.size 1) fun c=>aK a (aN H.size 2) fun d e f=>jN 306 #[aZ #[am b,ac c,av d e f]] a fun a b c d=>ah (!c) (Q (aA 0 170) d) (ah (bP (aI ((a.size:Int)+(b.size:Int))) 8192) (Q (aA 0 170) d) (aF d (aL H.size) fun c=>ay d (aN H.size 1) fun e=>aK d (aN H.size 2) fun f g i=>ah (bP ((a.size+b.size:Nat):Int) IntKind.i64.max) False (ak 302 #[aZ #[am c,ac e,av f g i],aO (a++b)] d fun a b c=>Q (aA a b) c)))):ag PP 211 #[.agg #[.pointer a,ac i,.slice b l o]] Q H :=
 okF Tryz.func211 rfl h
theorem IT (h:ax (aJ H #[am a,ac i,av b l o] 138) fun a=>aF a (aL H.size) fun b=>ay a (aN H.size 1) fun c=>aK a (aN H.size 2) fun d e f=>jN 306 #[aZ #[am b,ac c,av d e f]] a fun a b c d=>ah c (ak 286 #[aP (bO a b)] d fun a b c=>Q (aA a b) c) (ak 286 #[aP false] d fun a b c=>Q (aA a b) c)):ag PP 212 #[.agg #[.pointer a,ac i,.slice b l o]] Q H :=
 okF Tryz.func212 rfl h
theorem Kb (h:ax (aJ H #[am a,ac i,av b l o] 138) fun a=>aF a (aL H.size) fun b=>ay a (aN H.size 1) fun c=>aK a (aN H.size 2) fun d e f=>jN 306 #[aZ #[am b,ac c,av d e f]] a fun a b c d=>ah (!c) (Q (aA 0 170) d) (ak 286 #[aP (Op.bytesLess (ByteArray.toList a) (ByteArray.toList b))] d fun a b c=>Q (aA a b) c)):ag PP 213 #[.agg #[.pointer a,ac i,.slice b l o]] Q H :=
 okF Tryz.func213 rfl h
theorem D5 (h:ax (aJ H #[am a,ac i,av b l o] 138) fun a=>aF a (aL H.size) fun b=>ay a (aN H.size 1) fun c=>aK a (aN H.size 2) fun d e f=>ay a (aN H.size 1) fun g=>eI 303 #[aZ #[am b,ac c,av d e f],ac g] a fun a b=>ah (aX (a.size:Int) 1) (Q (aA 0 170) b) (ah (bP (a.size:Int) 96) (Q (aA 0 170) b) (aF b (aL H.size) fun c=>du 33 #[am c] b fun b c=>ak 145 #[am b,aO a] c fun a b c=>ah (b != 0) (Q (aA 0 b) c) (ak 146 #[ac a] c fun a b c=>Q (aA a b) c)))):ag PP 214 #[.agg #[.pointer a,ac i,.slice b l o]] Q H :=
 okF Tryz.func214 rfl h
theorem GG (h:ax (aJ H #[am a,ac i,av b l o] 138) fun a=>aF a (aL H.size) fun b=>ax (aN H.size 1) fun c=>ay a c fun d=>aK a (aN H.size 2) fun e f g=>ay a c fun i=>ak 222 #[aZ #[am b,ac d,av e f g],ac i] a fun a _ b=>aF b (aL H.size) fun d=>ay b c fun c=>aK b (aN H.size 2) fun e f g=>ak 288 #[aZ #[am d,ac c,av e f g],ac a] b fun a b c=>Q (aA a b) c):ag PP 215 #[.agg #[.pointer a,ac i,.slice b l o]] Q H :=
 okF Tryz.func215 rfl h
theorem KA (h:ax (aJ H #[am a,ac i,av b l o] 138) fun a=>ax (aN H.size 1) fun b=>ay a b fun c=>ak 89 #[ac c] a fun a _ c=>ax (aL H.size) fun d=>aF c d fun e=>ak 307 #[am e,ac a] c fun c e f=>ax (aA 0 170) fun g=>mS (fun b=>ah (e != 0) (Q g f) (ah (decide (c<=14)) (ah (a != 4) (Q g f) (b [] f)) (b [] f))) fun c=>aF c d fun e=>dM 308 #[am e,ac a] c fun _ a _ c e=>ah (c != 0) (Q g e) (aF e d fun c=>ay e b fun d=>du 7 #[am c] e fun c e=>((aq e b=some (ac d)∧True)∧True)∧ak 279 #[am c,ac d,ac (a:Int),ac 0] e fun a b c=>True∧Q (aA a b) c)):ag PP 216 #[.agg #[.pointer a,ac i,.slice b l o]] Q H :=
 okL Tryz.func216 rfl (fun | 1005=>some [] | _=>none) h
theorem KP (h:ax (aN H.size 1) fun c=>ax (aJ H #[am a,ac i,av b l o] 138) fun a=>ay a c fun b=>ak 89 #[ac b] a fun a _ b=>aK b (aN H.size 2) fun d e _=>bf 0 e d fun d=>ay b (bc d 0 1) fun d=>ak 274 #[ac d] b fun b d e=>rL (fun c=>ax (aP true) fun f=>ax (aP (bP b 8192)) fun g=>ah (a != 10) (ah (a != 11) (c [f] e) (ah (d != 0) (c [f] e) (ah (aX b 0) (c [f] e) (c [g] e)))) (ah (d != 0) (c [f] e) (ah (aX b 0) (c [f] e) (c [g] e)))) fun d e=>ah d (Q (aA 0 170) e) (ah (a == 10) (aF e (aL H.size) fun a=>ay e c fun d=>du 7 #[am a] e fun a e=>((aq e c=some (ac d)∧True)∧True)∧ak 279 #[am a,ac d,ac b,ac 1] e fun a b c=>True∧Q (aA a b) c) (ah (b == 0) (ak 84 #[ac 18] e fun a b c=>Q (aA a b) c) (aF e (aL H.size) fun a=>ay e c fun d=>du 7 #[am a] e fun a e=>((aq e c=some (ac d)∧True)∧True)∧ak 279 #[am a,ac d,ac b,ac 0] e fun a b c=>True∧Q (aA a b) c)))):ag PP 217 #[.agg #[.pointer a,ac i,.slice b l o]] Q H :=
 okL Tryz.func217 rfl (fun | 1007=>some [(22,4)] | _=>none) h
theorem EI (h:Q (.func (.func 309) #[] #[am (some (aL H.size))]) (aJ H #[ac i] 3)):ag PP 218 #[ac i] Q H :=
 okF Tryz.func218 rfl h
theorem HM (h:iS 218 #[ac 4] (H.push (.map #[] 0)) fun a b c d=>ax (gS (some H.size)) fun e=>cS (Instr.mapUpdate 135 e (aO (⟨#[110,117,109,65,114,103,115]⟩:ByteArray)) (aZ #[ac 0,.func (.func a) b c])) d fun a=>cS (Instr.mapUpdate 135 e (aO (⟨#[118,97,108,117,101]⟩:ByteArray)) (aZ #[ac 0,.nilFunc])) a fun a=>bX [ac 1] a fun a b c d f=>ah (decide (f<=8)) (eI 310 #[aO (⟨#[118,97,108,117,101,58]⟩:ByteArray),ac f] d fun g i=>cS (Instr.mapUpdate 135 e (aO g) (aZ #[ac f,.nilFunc])) i fun e=>bm a b [ac (aI (f+1))] e c d) (Q e d)):ag PP 219 #[] Q H :=
 okL Tryz.func219 rfl (fun | 3=>some [(2,3)] | _=>none) h
theorem Lh (h:ak 89 #[ac j] (aJ H #[am a,ac i,av b l o] 138) fun a b c=>ah (b != 0) (Q (aA 0 0) c) (aF c (aL H.size) fun b=>du 7 #[am b] c fun b c=>du 44 #[am b] c fun b c=>bW 55 #[am b,ac a] c fun a b _ c=>Q (aA a b) c)):ag PP 222 #[.agg #[.pointer a,ac i,.slice b l o],ac j] Q H :=
 okF Tryz.func222 rfl h
theorem Lu (h:ak 89 #[ac j] (aJ H #[am a,ac i,av b l o] 138) fun a _ b=>aF b (aL H.size) fun c=>du 7 #[am c] b fun b c=>du 44 #[am b] c fun b c=>ak 57 #[am b,ac a,ac k] c fun a _ b=>Q (ac a) b):ag PP 223 #[.agg #[.pointer a,ac i,.slice b l o],ac j,ac k] Q H :=
 okF Tryz.func223 rfl h
theorem Fc (h:ah e (ak 84 #[ac 3] H fun a b c=>Q (aA a b) c) (ak 84 #[ac 2] H fun a b c=>Q (aA a b) c)):ag PP 286 #[.bool e] Q H :=
 okF Tryz.func286 rfl h
theorem IM (h:ax (aJ H #[am a,ac i,av b l o] 138) fun a=>aF a (aL H.size) fun b=>ax (aN H.size 1) fun c=>ay a c fun d=>aK a (aN H.size 2) fun e f g=>ay a c fun i=>bk 289 #[aZ #[am b,ac d,av e f g],ac i] a fun a b=>ah (!a) (Q (ac 0) b) (aF b (aL H.size) fun a=>ay b c fun d=>aK b (aN H.size 2) fun e f g=>ay b c fun c=>ak 222 #[aZ #[am a,ac d,av e f g],ac c] b fun a _ b=>Q (ac a) b)):ag PP 287 #[.agg #[.pointer a,ac i,.slice b l o]] Q H :=
 okF Tryz.func287 rfl h
theorem IU (h:ax (aJ H #[am a,ac i,av b l o] 138) fun a=>ax (aL H.size) fun b=>aF a b fun c=>ax (aN H.size 1) fun d=>ay a d fun e=>ax (aN H.size 2) fun f=>aK a f fun g i k=>ak 304 #[aZ #[am c,ac e,av g i k],ac j] a fun a c e=>ah (c != 0) (Q (aA 0 c) e) (aK e f fun _ c _=>ah (aX (c:Int) 2) (aF e b fun b=>ay e d fun c=>aK e f fun f g i=>ay e d fun d=>aC 223 #[aZ #[am b,ac c,av f g i],ac d,ac a] e fun a b=>Q (aA a 0) b) (aK e f fun c g i=>bf 1 g c fun j=>ay e (bc j 1 1) fun k=>aF e b fun b=>ay e d fun l=>aK e f fun m n o=>ay e d fun d=>aK e f fun p q _=>bf 1 q p fun p=>ay e (bc p 1 1) fun p=>aC 305 #[aZ #[am b,ac l,av m n o],ac d,ac a,ac p] e fun a b=>((aq b (bc j 1 1)=some (ac k)∧True)∧(aq b f=some (av c g i)∧True)∧True)∧Q (aA k a) b))):ag PP 288 #[.agg #[.pointer a,ac i,.slice b l o],ac j] Q H :=
 okF Tryz.func288 rfl h
theorem DT (h:ax (aJ H #[am a,ac i,av b l o] 138) fun a=>aF a (aL H.size) fun b=>ay a (aN H.size 1) fun c=>aK a (aN H.size 2) fun d e f=>aC 86 #[aZ #[am b,ac c,av d e f],ac j] a fun a b=>aF b (aL H.size) fun c=>ak 307 #[am c,ac a] b fun b c d=>ah (a == 4) (Q (aP true) d) (ah (c == 0) (Q (aP (bP b 14)) d) (Q (aP false) d))):ag PP 289 #[.agg #[.pointer a,ac i,.slice b l o],ac j] Q H :=
 okF Tryz.func289 rfl h
theorem Gu (h:ak 84 #[ac j] (aJ H #[am a,ac i,av b l o] 138) fun a _ b=>aF b (aL H.size) fun d=>du 7 #[am d] b fun b d=>ak 279 #[am b,ac a,ac (r:Int),ac k] d fun a b d=>ah (b != 0) (Q (aA 0 b) d) (bX [ac 0] d fun b d e f g=>ah (aX g (r:Int)) (bf g r c fun c=>ay f (bc c g 1) fun c=>aF f (aL H.size) fun i=>ay f (aN H.size 1) fun j=>aK f (aN H.size 2) fun k l m=>aC 305 #[aZ #[am i,ac j,av k l m],ac a,ac g,ac c] f fun a c=>ah (a != 0) (Q (aA 0 a) c) (bm b d [ac (aI (g+1))] c e f)) (Q (aA a 0) f))):ag PP 290 #[.agg #[.pointer a,ac i,.slice b l o],ac j,ac k,.slice c r s] Q H :=
 okL Tryz.func290 rfl (fun | 6=>some [(38,3)] | _=>none) h
theorem Ks (h:ax (aJ H #[am a,ac i,av b l o] 138) fun a=>aF a (aL H.size) fun b=>ay a (aN H.size 1) fun c=>aK a (aN H.size 2) fun d e f=>ak 222 #[aZ #[am b,ac c,av d e f],ac j] a fun a _ b=>bM (Instr.makeSlice 30 (ac a) (ac a)) b fun a b c d=>bX [ac 0] d fun d e f g i=>ah (aX i (b:Int)) (aF g (aL H.size) fun c=>ay g (aN H.size 1) fun k=>aK g (aN H.size 2) fun l m n=>aC 223 #[aZ #[am c,ac k,av l m n],ac j,ac i] g fun c j=>bf i b a fun a=>bj j (bc a i 1) (ac c) fun a=>bm d e [ac (aI (i+1))] a f g) (Q (av a b c) g)):ag PP 291 #[.agg #[.pointer a,ac i,.slice b l o],ac j] Q H :=
 okL Tryz.func291 rfl (fun | 4=>some [(19,3)] | _=>none) h
theorem KC (h:ax (aJ H #[am a,ac i,av b l o] 138) fun a=>ay a (aN H.size 1) fun b=>ak 286 #[aP (b == 8)] a fun a b c=>Q (aA a b) c):ag PP 292 #[.agg #[.pointer a,ac i,.slice b l o]] Q H :=
 okF Tryz.func292 rfl h
theorem Ey (h:ax (aJ H #[am a,ac i,av b l o] 138) fun a=>aK a (aN H.size 2) fun b c _=>bf 0 c b fun b=>ay a (bc b 0 1) fun b=>pE 351 #[ac b] a fun a b c=>ah (b != 0) (Q (aA 0 b) c) (ah a (ay c (aN H.size 1) fun a=>ak 286 #[aP (a == 12)] c fun a b c=>Q (aA a b) c) (ak 286 #[aP false] c fun a b c=>Q (aA a b) c))):ag PP 293 #[.agg #[.pointer a,ac i,.slice b l o]] Q H :=
 okF Tryz.func293 rfl h
theorem Ht (h:ax (aJ H #[am a,ac i,av b l o] 138) fun a=>aK a (aN H.size 2) fun b c _=>bf 0 c b fun b=>ay a (bc b 0 1) fun b=>pE 351 #[ac b] a fun a b c=>ah (b != 0) (Q (aA 0 b) c) (ah a (ak 286 #[aP true] c fun a b c=>Q (aA a b) c) (ay c (aN H.size 1) fun a=>ak 286 #[aP (a == 12)] c fun a b c=>Q (aA a b) c))):ag PP 294 #[.agg #[.pointer a,ac i,.slice b l o]] Q H :=
 okF Tryz.func294 rfl h
theorem Lb (h:ax (aJ H #[am a,ac i,av b l o] 138) fun a=>aF a (aL H.size) fun b=>ay a (aN H.size 1) fun c=>aK a (aN H.size 2) fun d e f=>bW 296 #[aZ #[am b,ac c,av d e f]] a fun a b c d=>ah (c != 0) (Q (aA 0 c) d) (nX d F (fun c e f=>ak c (e++#[ac a,ac b]++f) d fun a b c=>ah (b != 0) (Q (aA 0 b) c) (ak 268 #[ac a] c fun a b c=>Q (aA a b) c))∨aq d F=some .nilFunc∧False)):ag PP 295 #[.agg #[.pointer a,ac i,.slice b l o],.pointer (some F)] Q H :=
 okF Tryz.func295 rfl h
theorem Li (h:ax (aJ H #[am a,ac i,av b l o] 138) fun a=>ay a (aN H.size 1) fun b=>ak 274 #[ac b] a fun a _ b=>aK b (aN H.size 2) fun c d _=>bf 0 d c fun c=>ay b (bc c 0 1) fun c=>ak 274 #[ac c] b fun b c d=>ah (c != 0) (Q (bJ #[ac 0,ac 0,ac 170]) d) (Q (bJ #[ac a,ac b,ac 0]) d)):ag PP 296 #[.agg #[.pointer a,ac i,.slice b l o]] Q H :=
 okF Tryz.func296 rfl h
theorem E4 (h:ax (aJ H #[am a,ac i,av b l o] 138) fun a=>aF a (aL H.size) fun b=>ay a (aN H.size 1) fun c=>aK a (aN H.size 2) fun d e f=>bW 296 #[aZ #[am b,ac c,av d e f]] a fun a b c d=>ah (c != 0) (Q (aA 0 c) d) (nX d F (fun c e f=>bk c (e++#[ac a,ac b]++f) d fun a b=>ak 286 #[aP a] b fun a b c=>Q (aA a b) c)∨aq d F=some .nilFunc∧False)):ag PP 299 #[.agg #[.pointer a,ac i,.slice b l o],.pointer (some F)] Q H :=
 okF Tryz.func299 rfl h
theorem IC (h:ax (aJ H #[am a,ac i,av b l o] 138) fun a=>ay a (aN H.size 1) fun b=>ak 274 #[ac b] a fun a _ b=>Q (ac a) b):ag PP 300 #[.agg #[.pointer a,ac i,.slice b l o]] Q H :=
 okF Tryz.func300 rfl h
theorem Du (h:ax (t.size:Int) fun c=>bM (Instr.makeSlice 30 (ac c) (ac c)) (aJ H #[am a,ac i,av b l o] 138) fun a b d e=>bX [ac 0] e fun e f g i j=>ah (aX j c) (jb j t fun c=>bf j b a fun a=>bj i (bc a j 1) (ac (aI (c.toNat:Int))) fun a=>bm e f [ac (aI (j+1))] a g i) (aF i (aL H.size) fun c=>ay i (aN H.size 1) fun e=>aK i (aN H.size 2) fun f g j=>ak 290 #[aZ #[am c,ac e,av f g j],ac 10,ac 1,av a b d] i fun a b c=>Q (aA a b) c)):ag PP 302 #[.agg #[.pointer a,ac i,.slice b l o],.string t] Q H :=
 okL Tryz.func302 rfl (fun | 3=>some [(13,3)] | _=>none) h
theorem yp (h:ak 336 #[ac j] (aJ H #[am a,ac i,av b l o] 138) fun a b c=>ah (b == 0) (aF c (aL H.size) fun b=>du 33 #[am b] c fun b c=>eb 337 #[am b,ac a] c fun a _ b=>Q (aO a) b) (ax (aJ c #[am none,av none 0 0] 295) fun a=>aF a (aL H.size) fun b=>ay a (aN H.size 1) fun d=>aK a (aN H.size 2) fun e f g=>cq 291 #[aZ #[am b,ac d,av e f g],ac j] a fun a b _ d=>bX [ac 0] d fun d e f g i=>ax (am (some (aL c.size))) fun c=>ah (aX i (b:Int)) (bf i b a fun a=>ay g (bc a i 1) fun a=>A6 354 #[c,.int .u8 (IntKind.wrap .u8 a)] (fun a b=>∃ c:Value,a=c∧bm d e [ac (aI (i+1))] b f g) g) (eI 355 #[c] g fun a b=>Q (aO a) b))):ag PP 303 #[.agg #[.pointer a,ac i,.slice b l o],ac j] Q H :=
 okL Tryz.func303 rfl (fun | 7=>some [(32,3)] | _=>none) h
theorem FZ (h:ax (aJ H #[am a,ac i,av b l o] 138) fun a=>aK a (aN H.size 2) fun b c _=>bf 0 c b fun b=>ay a (bc b 0 1) fun b=>ak 274 #[ac b] a fun a b c=>ah (b != 0) (Q (aA 0 170) c) (ah (aX a 1) (Q (aA 0 171) c) (ah (bP a j) (Q (aA 0 171) c) (Q (aA (aI (a-1)) 0) c)))):ag PP 304 #[.agg #[.pointer a,ac i,.slice b l o],ac j] Q H :=
 okF Tryz.func304 rfl h
theorem Kh (h:ak 89 #[ac j] (aJ H #[am a,ac i,av b l o] 138) fun a _ b=>aF b (aL H.size) fun c=>du 7 #[am c] b fun b c=>du 44 #[am b] c fun b c=>aC 148 #[am b,ac a,ac k,ac m] c fun a b=>Q (ac a) b):ag PP 305 #[.agg #[.pointer a,ac i,.slice b l o],ac j,ac k,ac m] Q H :=
 okF Tryz.func305 rfl h
theorem zl (h:ax (aJ H #[am a,ac i,av b l o] 138) fun a=>ax (aL H.size) fun b=>aF a b fun c=>ax (aN H.size 1) fun d=>ay a d fun e=>ax (aN H.size 2) fun f=>aK a f fun g i j=>aK a f fun k l _=>bf 0 l k fun k=>ay a (bc k 0 1) fun k=>aC 86 #[aZ #[am c,ac e,av g i j],ac k] a fun a c=>True∧ah (a != 10) (ax (aO (⟨#[]⟩:ByteArray)) fun a=>Q (bJ #[a,a,aP false]) c) (aF c b fun a=>ay c d fun e=>aK c f fun g i j=>ay c d fun k=>aF c b fun l=>ay c d fun m=>aK c f fun n o p=>aK c f fun q r s=>bf 0 r q fun t=>ay c (bc t 0 1) fun u=>eI 303 #[aZ #[am a,ac e,av g i j],ac k] c fun a c=>((aq c (bc t 0 1)=some (ac u)∧True)∧ax (aq c f) fun a=>(a=some (av q r s)∧True)∧(aq c b=some (am l)∧aq c d=some (ac m)∧a=some (av n o p)∧True)∧True)∧eI 303 #[aZ #[am l,ac m,av n o p],ac u] c fun b c=>True∧Q (bJ #[aO a,aO b,aP true]) c)):ag PP 306 #[.agg #[.pointer a,ac i,.slice b l o]] Q H :=
 okF Tryz.func306 rfl h
theorem En (h:ax (aJ H #[am a,ac i,av b l o] 138) fun a=>aF a (aL H.size) fun b=>ay a (aN H.size 1) fun c=>aK a (aN H.size 2) fun d e f=>ay a (aN H.size 1) fun g=>ay a F fun i=>aC 223 #[aZ #[am b,ac c,av d e f],ac g,ac i] a fun a b=>Q (aA a 0) b):ag PP 309 #[.agg #[.pointer a,ac i,.slice b l o],.pointer (some F)] Q H :=
 okF Tryz.func309 rfl h
theorem Hf (h:ah (i == 12) (Q (bJ #[aP true,ac 0]) H) (ah (i == 8) (Q (bJ #[aP false,ac 0]) H) (Q (bJ #[aP false,ac 170]) H))):ag PP 351 #[ac i] Q H :=
 okF Tryz.func351 rfl h
end
section
variable {Q:QT}{H:au}
variable {a b c d A B D P:Option Addr}{i j k m n x y z I J K M N:Int}{l o r s u v L O R S U V:Nat}{t w T W:ByteArray}{e E g:Bool}{q:Option Nat}{p X Y Z:Value}{F G:Addr}
theorem NK (h:bk 109 #[am a] H fun b c=>ah b (Q (ac 2) c) (bk 110 #[ac i,ac 1073741824] c fun b c=>ah (!b) (Q (ac 1) c) (aE a fun a=>bj c (a.add 6) (ac i) fun a=>Q (ac 0) a))):ag PP 45 #[.pointer a,ac i] Q H :=
 okF Tryz.func45 rfl h
theorem Mc (h:ak 116 #[am a,ac i] H fun b c d=>ah (c != 0) (Q (aA 0 c) d) (aE a fun a=>aK d a fun a c _=>bf b c a fun a=>ay d (bc a b 1) fun a=>Q (aA a 0) d)):ag PP 54 #[.pointer a,ac i] Q H :=
 okF Tryz.func54 rfl h
theorem MV (h:ak 116 #[am a,ac i] H fun b c d=>ah (c != 0) (Q (bJ #[ac 0,ac 0,ac c]) d) (ak 117 #[am a,ac b] d fun a b c=>Q (bJ #[ac a,ac b,ac 0]) c)):ag PP 55 #[.pointer a,ac i] Q H :=
 okF Tryz.func55 rfl h
theorem NY (h:jM 118 #[am a,ac i,ac j] H fun b c d e f=>ah (e != 0) (Q (aA 0 e) f) (ah (d == 1) (aE a fun a=>aK f a fun a d _=>bf b d a fun a=>ay f (bc a b 1) fun a=>ah (aX c 0) False (Q (aA (nS .i64 (iL .i64 a c) 255) 0) f)) (aE a fun a=>aK f a fun a c _=>bf b c a fun a=>ay f (bc a b 1) fun a=>Q (aA a 0) f))):ag PP 57 #[.pointer a,ac i,ac j] Q H :=
 okF Tryz.func57 rfl h
theorem N4 (h:ah (cD a) (Q (ac 0) H) (aE a fun a=>ay H (a.add 6) fun a=>Q (ac a) H)):ag PP 60 #[.pointer a] Q H :=
 okF Tryz.func60 rfl h
theorem Mu (h:ax (ac j) fun b=>ax (ac k) fun c=>mS (fun d=>bk 109 #[am a] H fun e f=>ah e (Q (aA 0 2) f) (bk 140 #[ac i] f fun e f=>ax (aA 0 1) fun g=>ah (!e) (Q g f) (ax (aA 0 23) fun e=>ah (k != 0) (ah (k != 1) (Q g f) (ah (aX j 0) (Q g f) (ah (bP j 8192) (Q (aA 0 22) f) (aE a fun g=>ay f (g.add 3) fun g=>aE a fun i=>aK f (i.add 1) fun _ i _=>ah (decide (g≥aI ((i:Int)-1))) (Q e f) (aE a fun g=>aK f g fun i j k=>aE a fun l=>ay f (l.add 4) fun m=>aC 141 #[b,c] f fun b c=>((aq c (l.add 4)=some (ac m)∧True)∧(aq c g=some (av i j k)∧True)∧True)∧ah (bP b (aI ((j:Int)-m))) (Q e c) (aE a fun b=>ay c (b.add 6) fun b=>ah (b == 1) (aE a fun a=>bj c (a.add 6) (ac 0) fun a=>Q (aA 0 24) a) (aE a fun b=>ay c (b.add 6) fun b=>ah (bP b 0) (aE a fun b=>ay c (b.add 6) fun b=>aE a fun a=>bj c (a.add 6) (ac (aI (b-1))) fun a=>d [] a) (d [] c)))))))) (ah (aX j 0) (Q g f) (ah (bP j 8192) (Q (aA 0 22) f) (aE a fun g=>ay f (g.add 3) fun g=>aE a fun i=>aK f (i.add 1) fun _ i _=>ah (decide (g≥aI ((i:Int)-1))) (Q e f) (aE a fun g=>aK f g fun i j k=>aE a fun l=>ay f (l.add 4) fun m=>aC 141 #[b,c] f fun b c=>((aq c (l.add 4)=some (ac m)∧True)∧(aq c g=some (av i j k)∧True)∧True)∧ah (bP b (aI ((j:Int)-m))) (Q e c) (aE a fun b=>ay c (b.add 6) fun b=>ah (b == 1) (aE a fun a=>bj c (a.add 6) (ac 0) fun a=>Q (aA 0 24) a) (aE a fun b=>ay c (b.add 6) fun b=>ah (bP b 0) (aE a fun b=>ay c (b.add 6) fun b=>aE a fun a=>bj c (a.add 6) (ac (aI (b-1))) fun a=>d [] a) (d [] c)))))))))) fun d=>aE a fun e=>ay d (e.add 5) fun e=>bX [ac e] d fun d e f g j=>aE a fun l=>aK g (l.add 1) fun l m _=>bf j m l fun l=>ay g (bc l j 1) fun l=>ax (ac (aI (j+1))) fun m=>ah (decide (l≥0)) (bm d e [m] g f g) (aE a fun d=>bj g (d.add 5) m fun d=>aE a fun e=>aK d e fun f g l=>aE a fun m=>ay d (m.add 4) fun n=>aE a fun o=>ay d (o.add 4) fun p=>aC 141 #[b,c] d fun d q=>((aq q (o.add 4)=some (ac p)∧True)∧(aq q (m.add 4)=some (ac n)∧True)∧(aq q e=some (av f g l)∧True)∧True)∧ax (aI (n+2)) fun e=>ax (aI (p+d)) fun d=>(((0:Int)<=d∧d<=(l:Int))∧(0:Int)<=e∧e<=d)∧ax (Int.toNat e) fun g=>ax (Int.toNat d) fun d=>ax (kN f l e 1) fun e=>pz (Builtin.clear_ #[30] 0 #[av e (d-g) (l-g)]) (fun _ f=>ah (k == 0) (bX [ac 0] f fun f k l m n=>ah (aX n ((d-g:Nat):Int)) (bf n (d-g) e fun a=>bj m (bc a n 1) (ac 4) fun a=>bm f k [ac (aI (n+1))] a l m) (aC 142 #[am a,ac j,ac i,b,c] m fun _ a=>Q (aA j 0) a)) (aC 142 #[am a,ac j,ac i,b,c] f fun _ a=>Q (aA j 0) a)) q)):ag PP 72 #[.pointer a,ac i,ac j,ac k] Q H :=
 okL Tryz.func72 rfl (fun | 1014=>some [] | 15=>some [(10,3)] | 22=>some [(127,3)] | _=>none) h
theorem Ng (h:ax (am a) fun c=>bk 109 #[c] H fun d e=>ax (ac 0) fun f=>ah d (Q (bJ #[f,f,ac 2]) e) (aE a fun d=>aK e (d.add 1) fun _ d _=>bM (Instr.makeSlice 25 (ac (d:Int)) (ac (d:Int))) e fun d e _ g=>bX [f] g fun g i j k m=>ah (aX m (l:Int)) (bf m l b fun a=>ay k (bc a m 1) fun a=>ak 116 #[c,ac a] k fun _ b c=>ah (b != 0) (Q (bJ #[f,f,ac b]) c) (bf a e d fun b=>bj c (bc b a 1) (ac 1) fun a=>bm g i [ac (aI (m+1))] a j k)) (aE a fun b=>ay k (b.add 3) fun b=>aE a fun g=>ay k (g.add 4) fun g=>cq 168 #[c] k fun i j _ k=>js [f,f] k fun k l m n o p=>ax (Int.toNat o) fun q=>ax (0:Int) fun r=>ah (aX p (j:Int)) (bf p j i fun b=>ay n (bc b p 1) fun b=>aE a fun f=>aK n (f.add 1) fun f g _=>bf b g f fun f=>ay n (bc f b 1) fun f=>bf b e d fun d=>ay n (bc d b 1) fun d=>ax (ac (aI (p+1))) fun e=>ah (d == 0) (fe 169 #[c,ac b] n fun a=>bm k l [ac o,e] a m n) (aC 170 #[c,ac f] n fun c d=>aE a fun g=>aK d g fun g i j=>(r<=o∧o<=(i:Int))∧aE a fun p=>aK d p fun p _ s=>ax (aI (f+c)) fun t=>((r<=t∧t<=(s:Int))∧r<=f∧f<=t)∧zz (Builtin.copy_ #[30,30] 3 #[av (kN g j o 1) (i-q) (j-q),av (kN p s f 1) (Int.toNat t-Int.toNat f) (s-Int.toNat f)]) d fun _ d=>True∧aE a fun a=>aK d (a.add 1) fun a f _=>bf b f a fun a=>bj d (bc a b 1) (ac o) fun a=>bm k l [ac (aI (o+c)),e] a m n)) (aE a fun c=>aK n c fun c _ d=>aE a fun e=>ay n (e.add 4) fun e=>((r<=e∧e<=(d:Int))∧r<=o∧o<=e)∧pz (Builtin.clear_ #[30] 0 #[av (kN c d o 1) (Int.toNat e-q) (d-q)]) (fun _ c=>True∧aE a fun d=>bj c (d.add 4) (ac o) fun c=>aE a fun d=>ay c (d.add 8) fun d=>aE a fun e=>bj c (e.add 8) (ac (aI (d+1))) fun c=>aE a fun a=>ay c (a.add 3) fun a=>Q (bJ #[ac (aI (b-a)),ac (aI (g-o)),f]) c) n)))):ag PP 83 #[.pointer a,.slice b l o] Q H :=
 okL Tryz.func83 rfl (fun | 5=>some [(29,3)] | 14=>some [(14,3),(57,3)] | _=>none) h
theorem Dh (h:ah (cD a) (Q (aP true) H) (aE a fun a=>aK H (a.add 1) fun a _ _=>Q (aP (cD a)) H)):ag PP 109 #[.pointer a] Q H :=
 okF Tryz.func109 rfl h
theorem Dw (h:ah (decide ((0:Int)<=i)) (Q (aP (decide (i<=j))) H) (Q (aP false) H)):ag PP 110 #[ac i,ac j] Q H :=
 okF Tryz.func110 rfl h
theorem FL (h:bk 109 #[am a] H fun b c=>ah b (Q (aA 0 2) c) (ah (aX i 1) (Q (aA 0 20) c) (aE a fun b=>aK c (b.add 1) fun _ b _=>ah (decide (i≥(b:Int))) (Q (aA 0 20) c) (aE a fun b=>aK c (b.add 1) fun b d _=>bf i d b fun b=>ay c (bc b i 1) fun b=>ah (aX b 0) (Q (aA 0 20) c) (aE a fun a=>aK c (a.add 1) fun a b _=>bf i b a fun a=>ay c (bc a i 1) fun a=>Q (aA a 0) c))))):ag PP 116 #[.pointer a,ac i] Q H :=
 okF Tryz.func116 rfl h
theorem zi (h:aE a fun a=>aK H a fun a b _=>bf (aI (i+1)) b a fun a=>ay H (bc a (aI (i+1)) 1) fun a=>Q (aA (iL .i64 a 1) (nS .i64 a 1)) H):ag PP 117 #[.pointer a,ac i] Q H :=
 okF Tryz.func117 rfl h
theorem Kj (h:ak 116 #[am a,ac i] H fun b c d=>ax (ac 0) fun e=>ah (c != 0) (Q (bJ #[e,e,e,ac c]) d) (ak 117 #[am a,ac b] d fun a c d=>ax (bJ #[e,e,e,ac 21]) fun f=>ah (aX j 0) (Q f d) (ah (decide (j≥a)) (Q f d) (ah (c == 1) (Q (bJ #[ac (aI (aI (b+2)+aI (Int.tdiv j 4))),ac (aI (Int.tmod j 4*8)),ac c,e]) d) (Q (bJ #[ac (aI (aI (b+2)+j)),e,ac c,e]) d))))):ag PP 118 #[.pointer a,ac i,ac j] Q H :=
 okF Tryz.func118 rfl h
theorem Ed (h:ax (ac 0) fun b=>ax (av none 0 0) fun c=>ax (am a) fun d=>bk 109 #[d] (aJ H #[b,b,b,c] 176) fun e f=>ax (aN H.size 1) fun g=>ax (aN H.size 2) fun i=>ax (aN H.size 3) fun j=>ax (aL H.size) fun k=>ah e (bj f k b fun a=>bj a g b fun a=>bj a i b fun a=>bj a j c fun a=>ay a k fun b=>ay a g fun c=>ay a i fun d=>aK a j fun e f g=>Q (aZ #[ac b,ac c,ac d,av e f g]) a) (aE a fun e=>aK f e fun l m n=>aE a fun o=>aK f (o.add 1) fun p q r=>aE a fun s=>ay f (s.add 6) fun t=>ax (aJ f #[b,b,b,c] 176) fun u=>((aq u (s.add 6)=some (ac t)∧True)∧(aq u (o.add 1)=some (av p q r)∧True)∧(aq u e=some (av l m n)∧True)∧True)∧bj u (aL f.size) (ac (m:Int)) fun e=>bj e (aN f.size 1) (ac (aI ((q:Int)-1))) fun e=>bj e (aN f.size 2) (ac t) fun e=>ax (aN f.size 3) fun l=>bj e l c fun e=>True∧aE a fun m=>ay e (m.add 3) fun m=>bM (Instr.makeSlice 174 (ac m) (ac m)) e fun e m n o=>bj o l (av e m n) fun e=>cq 168 #[d] e fun e m _ n=>bX [b] n fun n o p q r=>ah (aX r (m:Int)) (bf r m e fun e=>ay q (bc e r 1) fun e=>aE a fun f=>aK q (f.add 1) fun f g _=>bf e g f fun f=>ay q (bc f e 1) fun f=>ak 117 #[d,ac f] q fun f g i=>aE a fun j=>aK i j fun k m s=>aE a fun a=>ax (a.add 1) fun a=>aK i a fun t u v=>bf e u t fun w=>ax (bc w e 1) fun w=>ay i w fun x=>bf x m k fun y=>ax (bc y x 1) fun y=>ay i y fun z=>ax (some (av t u v)) fun t=>ax (some (av k m s)) fun k=>ax (some (ac z)) fun m=>ax (some (ac x)) fun s=>ax (Instr.makeSlice 30 (ac f) (ac f)) fun f=>ax (ac e) fun e=>ax (ac (aI (r+1))) fun u=>bM f i (fun f i v x=>((aq x y=m∧True)∧(aq x w=s∧True)∧(aq x a=t∧True)∧(aq x j=k∧True)∧True)∧ax (aJ x #[b,b,b,c] 179) fun c=>((aq c y=m∧True)∧(aq c w=s∧True)∧(aq c a=t∧True)∧(aq c j=k∧True)∧True)∧bj c (aL x.size) e fun a=>bj a (aN x.size 1) (ac z) fun a=>bj a (aN x.size 2) (ac g) fun a=>ax (aN x.size 3) fun c=>bj a c (av f i v) fun a=>True∧aK a c fun _ f _=>bX [b] a fun a b g i j=>ah (aX j (f:Int)) (aK i c fun f k l=>ak 57 #[d,e,ac j] i fun d _ e=>((aq e c=some (av f k l)∧True)∧True)∧bf j k f fun c=>bj e (bc c j 1) (ac d) fun c=>True∧bm a b [ac (aI (j+1))] c g i) (aK i l fun a b _=>ay i (aL x.size) fun d=>ay i (aN x.size 1) fun e=>ay i (aN x.size 2) fun f=>aK i c fun c g j=>bf r b a fun a=>ax (bc a r 4) fun a=>bj i a (ac d) fun b=>bj b (a.add 1) (ac e) fun b=>bj b (a.add 2) (ac f) fun b=>bj b (a.add 3) (av c g j) fun a=>bm n o [u] a p q))∧ax (aJ i #[b,b,b,c] 179) fun c=>((aq c y=m∧True)∧(aq c w=s∧True)∧(aq c a=t∧True)∧(aq c j=k∧True)∧True)∧bM f c fun c f v x=>((aq x y=m∧True)∧(aq x w=s∧True)∧(aq x a=t∧True)∧(aq x j=k∧True)∧True)∧bj x (aL i.size) e fun a=>bj a (aN i.size 1) (ac z) fun a=>bj a (aN i.size 2) (ac g) fun a=>ax (aN i.size 3) fun g=>bj a g (av c f v) fun a=>True∧aK a g fun _ c _=>bX [b] a fun a b f j k=>ah (aX k (c:Int)) (aK j g fun c i l=>ak 57 #[d,e,ac k] j fun d _ e=>((aq e g=some (av c i l)∧True)∧True)∧bf k i c fun c=>bj e (bc c k 1) (ac d) fun c=>True∧bm a b [ac (aI (k+1))] c f j) (aK j l fun a b _=>ay j (aL i.size) fun c=>ay j (aN i.size 1) fun d=>ay j (aN i.size 2) fun e=>aK j g fun f g i=>bf r b a fun a=>ax (bc a r 4) fun a=>bj j a (ac c) fun b=>bj b (a.add 1) (ac d) fun b=>bj b (a.add 2) (ac e) fun b=>bj b (a.add 3) (av f g i) fun a=>bm n o [u] a p q)) (ay q (aL f.size) fun a=>ay q (aN f.size 1) fun b=>ay q (aN f.size 2) fun c=>aK q l fun d e f=>bj q k (ac a) fun a=>bj a g (ac b) fun a=>bj a i (ac c) fun a=>bj a j (av d e f) fun a=>ay a k fun b=>ay a g fun c=>ay a i fun d=>aK a j fun e f g=>Q (aZ #[ac b,ac c,ac d,av e f g]) a))):ag PP 119 #[.pointer a] Q H :=
 okL Tryz.func119 rfl (fun | 6=>some [(38,3)] | 11=>some [(76,3)] | _=>none) h
theorem GQ (h:bk 110 #[ac i,ac 1048576] H fun a b=>ax (ac 1) fun c=>ax (bJ #[am none,c]) fun d=>ah (!a) (Q d b) (bk 110 #[ac j,ac 65536] b fun a b=>ah (!a) (Q d b) (ax (ac 0) fun a=>Pg (fun d=>ax (Instr.makeSlice 25 (ac (aI (j+1))) (ac (aI (j+1)))) fun e=>ax (Instr.makeSlice 30 (ac i) (ac i)) fun f=>bM f b (fun b f g i=>True∧bM e i (fun i j k l=>True∧bM e l fun e l m n=>True∧True∧d [am (some (aL n.size))] (aJ n #[av b f g,av i j k,av e l m,a,a,c,a,a,a] 161))∧bM e i fun i j k l=>True∧bM e l fun e l m n=>True∧True∧d [am (some (aL n.size))] (aJ n #[av b f g,av e l m,av i j k,a,a,c,a,a,a] 161))∧bM e b (fun b g i j=>True∧bM f j (fun f j k l=>True∧bM e l fun e l m n=>True∧True∧d [am (some (aL n.size))] (aJ n #[av f j k,av b g i,av e l m,a,a,c,a,a,a] 161))∧bM e j fun e j k l=>True∧bM f l fun f l m n=>True∧True∧d [am (some (aL n.size))] (aJ n #[av f l m,av b g i,av e j k,a,a,c,a,a,a] 161))∧bM e b fun b g i j=>True∧bM f j (fun f j k l=>True∧bM e l fun e l m n=>True∧True∧d [am (some (aL n.size))] (aJ n #[av f j k,av e l m,av b g i,a,a,c,a,a,a] 161))∧bM e j fun e j k l=>True∧bM f l fun f l m n=>True∧True∧d [am (some (aL n.size))] (aJ n #[av f l m,av e j k,av b g i,a,a,c,a,a,a] 161)) fun b c=>aE b fun d=>aK c (d.add 1) fun _ d _=>bX [a] c fun c e f g i=>ah (aX i (d:Int)) (aE b fun a=>aK g (a.add 1) fun a b _=>bf i b a fun a=>bj g (bc a i 1) (ac (-1)) fun a=>bm c e [ac (aI (i+1))] a f g) (Q (bJ #[am b,a]) g)))):ag PP 139 #[ac i,ac j] Q H :=
 okL Tryz.func139 rfl (fun | 1004=>some [(6,66)] | 5=>some [(31,3)] | _=>none) h
theorem KL (h:aC 13 #[ac i] H fun a b=>Q (aP (a != 0)) b):ag PP 140 #[ac i] Q H :=
 okF Tryz.func140 rfl h
theorem KZ (h:ah (j == 1) (Q (ac (aI (2+aI (Int.tdiv (aI (aI (i+4)-1)) 4)))) H) (Q (ac (aI (2+i))) H)):ag PP 141 #[ac i,ac j] Q H :=
 okF Tryz.func141 rfl h
theorem EO (h:aE a fun b=>ay H (b.add 4) fun b=>aE a fun c=>aK H c fun c d _=>aE a fun e=>aK H e fun e f _=>bf b d c fun c=>bj H (bc c b 1) (ac j) fun c=>True∧bf (aI (b+1)) f e fun d=>bj c (bc d (aI (b+1)) 1) (ac (wJ .i64 (fu .i64 k 1) m)) fun c=>True∧aE a fun d=>aK c (d.add 1) fun d e _=>aE a fun f=>aK c (f.add 2) fun f g _=>aE a fun j=>ay c (j.add 7) fun j=>bf i e d fun d=>bj c (bc d i 1) (ac b) fun c=>True∧bf i g f fun d=>bj c (bc d i 1) (ac j) fun c=>True∧aE a fun d=>ay c (d.add 4) fun e=>aC 141 #[ac k,ac m] c fun c f=>((aq f (d.add 4)=some (ac e)∧True)∧True)∧aE a fun d=>bj f (d.add 4) (ac (aI (e+c))) fun c=>True∧aE a fun d=>ay c (d.add 7) fun d=>aE a fun e=>bj c (e.add 7) (ac (aI (d+1))) fun c=>aE a fun d=>ay c (d.add 3) fun d=>aE a fun a=>bj c (a.add 3) (ac (aI (d+1))) fun a=>Q (ac b) a):ag PP 142 #[.pointer a,ac i,ac j,ac k,ac m] Q H :=
 okF Tryz.func142 rfl h
theorem yY (h:jM 118 #[am a,ac i,ac j] H fun b c d e f=>ah (e != 0) (Q (ac e) f) (bk 269 #[ac k,ac d] f fun e f=>ah (!e) (Q (ac 10) f) (ah (d == 1) (aE a fun d=>aK f d fun d e _=>bf b e d fun d=>ay f (bc d b 1) fun d=>ah (aX c 0) False (ah (aX c 0) False (aE a fun a=>aK f a fun a e _=>bf b e a fun a=>bj f (bc a b 1) (ac (wJ .i64 (nj .i64 d (fu .i64 255 c)) (fu .i64 k c))) fun a=>Q (ac 0) a))) (aE a fun a=>aK f a fun a c _=>bf b c a fun a=>bj f (bc a b 1) (ac k) fun a=>Q (ac 0) a)))):ag PP 148 #[.pointer a,ac i,ac j,ac k] Q H :=
 okF Tryz.func148 rfl h
theorem Lr (h:ax (aJ H #[am a] 66) fun a=>aF a (aL H.size) fun b=>cq 283 #[am b] a fun a b c d=>fe 284 #[av a b c,.func (.func 285) #[] #[am (some (aL H.size))]] d fun d=>Q (av a b c) d):ag PP 168 #[.pointer a] Q H :=
 okF Tryz.func168 rfl h
theorem Dj (h:aE a fun b=>aK H b fun b c _=>aE a fun d=>aK H (d.add 1) fun d e _=>bf i e d fun d=>ay H (bc d i 1) fun d=>bf d c b fun b=>bj H (bc b d 1) (ac 0) fun b=>True∧aE a fun c=>aK b (c.add 1) fun c d _=>bf i d c fun c=>bj b (bc c i 1) (ac (-1)) fun b=>aE a fun c=>ay b (c.add 5) fun c=>aE a fun d=>bj b (d.add 5) (ac (if i<c then i else c)) fun b=>aE a fun c=>ay b (c.add 3) fun c=>aE a fun a=>bj b (a.add 3) (ac (aI (c-1))) fun a=>Q (bJ #[]) a):ag PP 169 #[.pointer a,ac i] Q H :=
 okF Tryz.func169 rfl h
theorem Fo (h:ak 117 #[am a,ac i] H fun a b c=>aC 141 #[ac a,ac b] c fun a b=>Q (ac a) b):ag PP 170 #[.pointer a,ac i] Q H :=
 okF Tryz.func170 rfl h
theorem IS (h:ah (j == 1) (ah (decide ((0:Int)<=i)) (Q (aP (decide (i<=255))) H) (Q (aP false) H)) (bk 140 #[ac i] H fun a b=>Q (aP a) b)):ag PP 269 #[ac i,ac j] Q H :=
 okF Tryz.func269 rfl h
theorem DS (h:bk 109 #[am a] H fun b c=>ah b (Q (av none 0 0) c) (aE a fun b=>ay c (b.add 3) fun b=>bM (Instr.makeSlice 25 (ac 0) (ac b)) c fun b c d e=>aE a fun a=>aK e (a.add 1) fun a f _=>cL [av b c d,ac 0] e fun b c d e g i j k=>ax (av g i j) fun g=>ah (aX k (f:Int)) (bf k f a fun a=>ay e (bc a k 1) fun a=>ax (ac (aI (k+1))) fun f=>ah (decide (a≥0)) (bM (Builtin.append_ #[25,25] 25 #[g,av (some (aL e.size)) 1 1]) (aJ e #[ac k] 3) fun a g i j=>bm b c [av a g i,f] j d e) (bm b c [g,f] e d e)) (Q g e))):ag PP 283 #[.pointer a] Q H :=
 okL Tryz.func283 rfl (fun | 5=>some [(3,25),(18,3)] | _=>none) h
theorem D1 (h:aF H F fun a=>aE a fun a=>aK H (a.add 1) fun a b _=>bf i b a fun a=>ay H (bc a i 1) fun a=>aF H F fun b=>aE b fun b=>aK H (b.add 1) fun b c _=>bf j c b fun b=>ay H (bc b j 1) fun b=>Q (ac (aI (a-b))) H):ag PP 285 #[ac i,ac j,.pointer (some F)] Q H :=
 okF Tryz.func285 rfl h
end
section
variable {Q:QT}{H:au}
variable {a b c d A B D P:Option Addr}{i j k m n x y z I J K M N:Int}{l o r s u v L O R S U V:Nat}{t w T W:ByteArray}{e E g:Bool}{q:Option Nat}{p X Y Z:Value}{F G:Addr}
theorem MR (h:ax (nS .i64 i 3) fun a=>((0:Int)<=a∧a<(4:Int))∧ay H (aN 0 (Int.toNat a*1)) fun a=>ax (bP (iL .i64 i 2) 65536) fun b=>ax (ac 0) fun c=>ax (decide (i<=0)) fun d=>ax (ac a) fun e=>ax (decide (iL .i64 i 2≥4096)) fun f=>ah (a == 1) (bk 31 #[ac (iL .i64 i 1)] H fun g j=>ah (!g) (Q c j) (ah (a == 2) (ah (aX i 0) (Q c j) (ah f (Q c j) (ah (a == 3) (ah d (Q c j) (ah b (Q c j) (Q e j))) (Q e j)))) (ah (a == 3) (ah d (Q c j) (ah b (Q c j) (Q e j))) (Q e j)))) (ah (a == 2) (ah (aX i 0) (Q c H) (ah f (Q c H) (ah (a == 3) (ah d (Q c H) (ah b (Q c H) (Q e H))) (Q e H)))) (ah (a == 3) (ah d (Q c H) (ah b (Q c H) (Q e H))) (Q e H)))):ag PP 13 #[ac i] Q H :=
 okF Tryz.func13 rfl h
theorem NR (h:Q (ac (aI (aI (2*i)+1))) H):ag PP 22 #[ac i] Q H :=
 okF Tryz.func22 rfl h
theorem Bx (h:ah (decide (i≥(-1073741824))) (Q (aP (decide (i<=1073741823))) H) (Q (aP false) H)):ag PP 31 #[ac i] Q H :=
 okF Tryz.func31 rfl h
theorem Mq (h:bk 90 #[am a] H fun b c=>ah b (Q (ac 0) c) (aE a fun a=>aK c (a.add 1) fun _ a _=>Q (ac (a:Int)) c)):ag PP 34 #[.pointer a] Q H :=
 okF Tryz.func34 rfl h
theorem Na (h:Q (ac (aI (4*i))) H):ag PP 40 #[ac i] Q H :=
 okF Tryz.func40 rfl h
theorem Pb (h:bk 90 #[am a] H fun b c=>ah b (Q (av none 0 0) c) (aE a fun a=>aK c (a.add 1) fun a b d=>cq 125 #[av a b d] c fun a b c d=>Q (av a b c) d)):ag PP 66 #[.pointer a] Q H :=
 okF Tryz.func66 rfl h
theorem MA (h:cL [av none 0 0,ac 0] H fun b c d e f g i j=>ax (av f g i) fun f=>ah (!(cD a)) (aE a fun g=>aK e (g.add 1) fun _ g _=>ah (aX j (g:Int)) (aE a fun a=>aK e (a.add 1) fun a g _=>bf j g a fun a=>cX e (bc a j 1) fun a=>bM (Builtin.append_ #[61,61] 61 #[f,av (some (aL e.size)) 1 1]) (aJ e #[aO a] 9) fun a f g i=>bm b c [av a f g,ac (aI (j+1))] i d e) (Q f e)) (Q f e)):ag PP 67 #[.pointer a] Q H :=
 okL Tryz.func67 rfl (fun | 3=>some [(3,61),(4,3)] | _=>none) h
theorem ME (h:ax (bJ #[am none,ac 1]) fun a=>ah (aX i 0) (Q a H) (ah (bP i 4096) (Q a H) (ax (H.push (.map #[] 0)) fun a=>Q (bJ #[am (some (aL a.size)),ac 0]) (aJ a #[ac i,av none 0 0,gS (some H.size)] 143)))):ag PP 70 #[ac i] Q H :=
 okF Tryz.func70 rfl h
theorem Cw (h:Q (av (some (aL H.size)) 14 14) (aJ H #[aO (⟨#[79,98,106,101,99,116]⟩:ByteArray),aO (⟨#[85,110,100,101,102,105,110,101,100,79,98,106,101,99,116]⟩:ByteArray),aO (⟨#[70,97,108,115,101]⟩:ByteArray),aO (⟨#[84,114,117,101]⟩:ByteArray),aO (⟨#[73,110,116,101,103,101,114]⟩:ByteArray),aO (⟨#[83,121,109,98,111,108]⟩:ByteArray),aO (⟨#[83,116,114,105,110,103]⟩:ByteArray),aO (⟨#[65,114,114,97,121]⟩:ByteArray),aO (⟨#[67,108,97,115,115]⟩:ByteArray),aO (⟨#[77,101,116,104,111,100]⟩:ByteArray),aO (⟨#[66,108,111,99,107]⟩:ByteArray),aO (⟨#[67,111,110,116,101,120,116]⟩:ByteArray),aO (⟨#[80,114,111,99,101,115,115]⟩:ByteArray),aO (⟨#[77,101,115,115,97,103,101]⟩:ByteArray)] 9)):ag PP 71 #[] Q H :=
 okF Tryz.func71 rfl h
theorem L0 (h:ak 84 #[ac i] H fun a _ b=>Q (ac a) b):ag PP 73 #[ac i] Q H :=
 okF Tryz.func73 rfl h
theorem Bp (h:ah (aX i 1) (Q (aA 0 1) H) (ah (bP i 65536) (Q (aA 0 1) H) (Q (aA (fu .i64 i 2) 0) H))):ag PP 84 #[ac i] Q H :=
 okF Tryz.func84 rfl h
theorem MO (h:aC 13 #[ac i] H fun a b=>ah (a != 3) (Q (aA 0 10) b) (Q (aA (iL .i64 i 2) 0) b)):ag PP 89 #[ac i] Q H :=
 okF Tryz.func89 rfl h
theorem NO (h:ah (cD a) (Q (aP true) H) (aE a fun a=>nZ H (a.add 2) fun a=>Q (aP (cD a)) H)):ag PP 90 #[.pointer a] Q H :=
 okF Tryz.func90 rfl h
theorem Mf (h:ax (bJ #[am none,ac 1]) fun a=>ah (aX i 0) (Q a H) (ah (bP i 4096) (Q a H) (Q (bJ #[am (some (aL H.size)),ac 0]) (aJ H #[ac i,av none 0 0] 186)))):ag PP 92 #[ac i] Q H :=
 okF Tryz.func92 rfl h
theorem Mm (h:ah (decide (i<=3)) (Q (aA (aI (aI (5+i)-1)) 0) H) (ah (aX i 18) (Q (aA 12 7) H) (ah (i == 18) (Q (aA 11 0) H) (ah (i == 19) (Q (aA 11 8) H) (Q (aA 11 14) H))))):ag PP 93 #[ac i] Q H :=
 okF Tryz.func93 rfl h
theorem M4 (h:ah (cD a) (Q (aA 0 2) H) (bk 228 #[aO t] H fun b c=>ah (!b) (Q (aA 0 61) c) (aC 229 #[am a,aO t] c fun b c=>ah (decide (b≥0)) (Q (aA b 0) c) (aE a fun b=>aK c (b.add 1) fun _ b _=>aE a fun d=>ay c d fun d=>ah (decide ((b:Int)≥d)) (Q (aA 0 60) c) (aE a fun b=>aK c (b.add 1) fun b d e=>bM (Builtin.append_ #[61,61] 61 #[av b d e,av (some (aL c.size)) 1 1]) (aJ c #[aO t] 9) fun b c d e=>aE a fun f=>bj e (f.add 1) (av b c d) fun b=>aE a fun a=>aK b (a.add 1) fun _ a _=>Q (aA (aI ((a:Int)-1)) 0) b))))):ag PP 95 #[.pointer a,.string t] Q H :=
 okF Tryz.func95 rfl h
theorem N8 (h:Q (ac (aI (aI (4*i)+2))) H):ag PP 97 #[ac i] Q H :=
 okF Tryz.func97 rfl h
theorem E1 (h:ah (cD a) (Q (ac 0) H) (aE a fun a=>aK H (a.add 1) fun _ a _=>Q (ac (a:Int)) H)):ag PP 107 #[.pointer a] Q H :=
 okF Tryz.func107 rfl h
theorem Fa (h:ah (bP i 0) (ah (Int.tmod i 4 == 0) (Q (ac (aI (Int.tdiv i 4))) H) (Q (ac 0) H)) (Q (ac 0) H)):ag PP 108 #[ac i] Q H :=
 okF Tryz.func108 rfl h
theorem IL (h:js [ac 0,ac (l:Int)] H fun b c d e f g=>ax (ac f) fun j=>ah (aX f g) (ax (aI (iL .u64 (IntKind.wrap .u64 (aI (f+g))) 1)) fun f=>bf f l a fun a=>ay e (bc a f 1) fun a=>bk 246 #[ac a,ac i] e fun a i=>ah a (bm b c [ac (aI (f+1)),ac g] i d e) (bm b c [j,ac f] i d e)) (ax (bJ #[j,aP false]) fun b=>ah (aX f (l:Int)) (bf f l a fun c=>ay e (bc c f 1) fun c=>ah (c == i) (Q (bJ #[j,aP true]) e) (bf f l a fun a=>ay e (bc a f 1) fun a=>bk 247 #[ac a] e fun a c=>ah a (bk 247 #[ac i] c fun a b=>Q (bJ #[j,aP a]) b) (Q b c))) (Q b e))):ag PP 120 #[.slice a l o,ac i] Q H :=
 okL Tryz.func120 rfl (fun | 3=>some [(7,3),(8,3)] | _=>none) h
theorem DC (h:ax (l:Int) fun b=>(((0:Int)<=b∧b<=(o:Int))∧(0:Int)<=b∧b<=b)∧ax (Int.toNat b) fun b=>Q (av a b b) H):ag PP 123 #[.slice a l o] Q H :=
 okF Tryz.func123 rfl h
theorem FW (h:ah (cD a) (Q (av none 0 0) H) (bM (Builtin.append_ #[30,30] 30 #[av (some (aL H.size)) 0 0,av a l o]) (aJ H #[] 26) fun a b c d=>Q (av a b c) d)):ag PP 124 #[.slice a l o] Q H :=
 okF Tryz.func124 rfl h
theorem Gr (h:ah (cD a) (Q (av none 0 0) H) (bM (Builtin.append_ #[61,61] 61 #[av (some (aL H.size)) 0 0,av a l o]) (aJ H #[] 9) fun a b c d=>Q (av a b c) d)):ag PP 125 #[.slice a l o] Q H :=
 okF Tryz.func125 rfl h
theorem Kq {g1:Array Value}{h1:Array Value}(h:aC 267 #[av a l o,.func (.func r) g1 h1] H fun a b=>Q (aP (decide (a≥0))) b):ag PP 143 #[.slice a l o,.func (.func r) g1 h1] Q H :=
 okF Tryz.func143 rfl h
theorem Em (h:bk 90 #[am a] H fun b c=>ah b (Q (aA 0 2) c) (ah (aX (t.size:Int) 1) (Q (aA 0 61) c) (ah (bP (t.size:Int) 96) (Q (aA 0 61) c) (aE a fun b=>nZ c (b.add 2) fun b=>yi (Instr.lookup 141 (gS b) (aO t) true) c fun b c d=>ah c (Q (aA b 0) d) (aE a fun b=>aK d (b.add 1) fun _ b _=>aE a fun c=>ay d c fun c=>ah (decide ((b:Int)≥c)) (Q (aA 0 60) d) (aE a fun c=>aK d (c.add 1) fun c e f=>bM (Builtin.append_ #[61,61] 61 #[av c e f,av (some (aL d.size)) 1 1]) (aJ d #[aO t] 9) fun c d e f=>aE a fun g=>bj f (g.add 1) (av c d e) fun c=>aE a fun a=>nZ c (a.add 2) fun a=>cS (Instr.mapUpdate 141 (gS a) (aO t) (ac (b:Int))) c fun a=>Q (aA (b:Int) 0) a)))))):ag PP 145 #[.pointer a,.string t] Q H :=
 okF Tryz.func145 rfl h
theorem Ew (h:ah (aX i 0) (Q (aA 0 1) H) (ah (decide (i≥4096)) (Q (aA 0 1) H) (Q (aA (wJ .i64 (fu .i64 i 2) 2) 0) H))):ag PP 146 #[ac i] Q H :=
 okF Tryz.func146 rfl h
theorem Hr (h:ak 268 #[ac i] H fun a _ b=>Q (ac a) b):ag PP 147 #[ac i] Q H :=
 okF Tryz.func147 rfl h
theorem K8 (h:ax (aP false) fun a=>ah (bO t (⟨#[]⟩:ByteArray)) (Q a H) (ah (bP (t.size:Int) 32) (Q a H) (jb 0 t fun b=>ah (aX (b.toNat:Int) i) (Q a H) (jb 0 t fun b=>ah (bP (b.toNat:Int) j) (Q a H) (bM (convert 9 249 (aO t)) H fun b c _ d=>bX [ac 0] d fun d e f g i=>ah (aX i (c:Int)) (bf i c b fun b=>∃ c,aq g (bc b i 1)=some (.int .u8 c)∧ax (ac (aI (i+1))) fun b=>ax (aX c 48) fun i=>ax (bP c 57) fun j=>ah (aX c 97) (ah (aX c 65) (ah i (Q a g) (ah j (Q a g) (bm d e [b] g f g))) (ah (bP c 90) (ah i (Q a g) (ah j (Q a g) (bm d e [b] g f g))) (bm d e [b] g f g))) (ah (bP c 122) (ah (aX c 65) (ah i (Q a g) (ah j (Q a g) (bm d e [b] g f g))) (ah (bP c 90) (ah i (Q a g) (ah j (Q a g) (bm d e [b] g f g))) (bm d e [b] g f g))) (bm d e [b] g f g))) (Q (aP true) g)))))):ag PP 149 #[.string t,.int .u8 i,.int .u8 j] Q H :=
 okL Tryz.func149 rfl (fun | 4=>some [(31,3)] | _=>none) h
theorem ET (h:ax (aP false) fun a=>ah (bO t (⟨#[115,101,108,102]⟩:ByteArray)) (Q a H) (ah (bO t (⟨#[115,117,112,101,114]⟩:ByteArray)) (Q a H) (ah (bO t (⟨#[110,105,108]⟩:ByteArray)) (Q a H) (ah (bO t (⟨#[116,114,117,101]⟩:ByteArray)) (Q a H) (ah (bO t (⟨#[102,97,108,115,101]⟩:ByteArray)) (Q a H) (bk 149 #[aO t,.int .u8 97,.int .u8 122] H fun a b=>Q (aP a) b)))))):ag PP 154 #[.string t] Q H :=
 okF Tryz.func154 rfl h
theorem E2 (h:aC 278 #[av a l o,aO t] H fun a b=>Q (aP (decide (a≥0))) b):ag PP 155 #[.slice a l o,.string t] Q H :=
 okF Tryz.func155 rfl h
theorem Iz (h:bk 90 #[am a] H fun b c=>ah b (Q (ac 2) c) (ah (aX i 0) (Q (ac 1) c) (aE a fun b=>aK c (b.add 1) fun _ b _=>ah (bP i (b:Int)) (Q (ac 1) c) (aE a fun b=>aK c (b.add 1) fun _ b _=>bX [ac 0] c fun c d e f g=>ah (aX g (aI ((b:Int)-i))) (aE a fun b=>nZ f (b.add 2) fun b=>aE a fun a=>aK f (a.add 1) fun a j _=>bf (aI (i+g)) j a fun a=>cX f (bc a (aI (i+g)) 1) fun a=>pz (Builtin.delete_ #[141,9] 0 #[gS b,aO a]) (fun _ a=>True∧bm c d [ac (aI (g+1))] a e f) f) (aE a fun b=>aK f (b.add 1) fun b _ c=>((0:Int)<=i∧i<=(c:Int))∧aE a fun a=>bj f (a.add 1) (av b (Int.toNat i) c) fun a=>Q (ac 0) a))))):ag PP 163 #[.pointer a,ac i] Q H :=
 okL Tryz.func163 rfl (fun | 6=>some [(28,3)] | _=>none) h
theorem FH (h:ak 297 #[ac i,ac j,ac (aI (i+j))] H fun a b c=>Q (aA a b) c):ag PP 183 #[ac i,ac j] Q H :=
 okF Tryz.func183 rfl h
theorem FY (h:ak 297 #[ac i,ac j,ac (aI (i-j))] H fun a b c=>Q (aA a b) c):ag PP 184 #[ac i,ac j] Q H :=
 okF Tryz.func184 rfl h
theorem Kg (h:ak 297 #[ac i,ac j,ac (aI (i*j))] H fun a b c=>Q (aA a b) c):ag PP 185 #[ac i,ac j] Q H :=
 okF Tryz.func185 rfl h
theorem Ec (h:bW 298 #[ac i,ac j] H fun a _ b c=>Q (aA a b) c):ag PP 186 #[ac i,ac j] Q H :=
 okF Tryz.func186 rfl h
theorem GM (h:bW 298 #[ac i,ac j] H fun _ a b c=>Q (aA a b) c):ag PP 187 #[ac i,ac j] Q H :=
 okF Tryz.func187 rfl h
theorem Hd (h:ak 297 #[ac i,ac j,ac (nS .i64 i j)] H fun a b c=>Q (aA a b) c):ag PP 188 #[ac i,ac j] Q H :=
 okF Tryz.func188 rfl h
theorem KY (h:ak 297 #[ac i,ac j,ac (wJ .i64 i j)] H fun a b c=>Q (aA a b) c):ag PP 189 #[ac i,ac j] Q H :=
 okF Tryz.func189 rfl h
theorem EM (h:ak 297 #[ac i,ac j,ac (Ln .i64 i j)] H fun a b c=>Q (aA a b) c):ag PP 190 #[ac i,ac j] Q H :=
 okF Tryz.func190 rfl h
theorem EU (h:ah (aX j 0) (ax (aI (0-(if j<(-31) then -31 else j))) fun a=>ah (aX a 0) False (ak 297 #[ac i,ac j,ac (iL .i64 i a)] H fun a b c=>Q (aA a b) c)) (ah (aX (if 31<j then 31 else j) 0) False (ak 297 #[ac i,ac j,ac (fu .i64 i (if 31<j then 31 else j))] H fun a b c=>Q (aA a b) c))):ag PP 191 #[ac i,ac j] Q H :=
 okF Tryz.func191 rfl h
theorem Ii (h:mS (fun a=>ah (Int.tmod i 2 != 0) (ah (decide (i≥(-2147483647))) (ah (decide (i<=2147483647)) (Q (ac 1) H) (a [] H)) (a [] H)) (a [] H)) fun a=>ax (Int.tmod i 4) fun b=>ax (decide (i<=262144)) fun c=>ax (ac 0) fun d=>ah (b == 2) (ah (aX i 16384) (Q (ac 2) a) (ah (b == 0) (ah (bP i 0) (ah c (Q (ac 3) a) (Q d a)) (Q d a)) (Q d a))) (ah (b == 0) (ah (bP i 0) (ah c (Q (ac 3) a) (Q d a)) (Q d a)) (Q d a))):ag PP 225 #[ac i] Q H :=
 okL Tryz.func225 rfl (fun | 1003=>some [] | _=>none) h
theorem Dd (h:ah (decide ((t.size:Int)≥1)) (Q (aP (decide ((t.size:Int)<=96))) H) (Q (aP false) H)):ag PP 228 #[.string t] Q H :=
 okF Tryz.func228 rfl h
theorem Fi (h:bX [ac 0] H fun b c d e f=>aE a fun g=>aK e (g.add 1) fun _ g _=>ah (aX f (g:Int)) (aE a fun a=>aK e (a.add 1) fun a g _=>bf f g a fun a=>cX e (bc a f 1) fun a=>ah (bO a t) (Q (ac f) e) (bm b c [ac (aI (f+1))] e d e)) (Q (ac (-1)) e)):ag PP 229 #[.pointer a,.string t] Q H :=
 okL Tryz.func229 rfl (fun | 2=>some [(5,3)] | _=>none) h
theorem FI (h:bk 312 #[aO t] H fun a b=>ah a (jb 0 t fun a=>Q (aP (decide ((a.toNat:Int)<=90))) b) (Q (aP false) b)):ag PP 231 #[.string t] Q H :=
 okF Tryz.func231 rfl h
theorem IY (h:bk 312 #[aO t] H fun a b=>ax (aP false) fun c=>ah a (jb 0 t fun a=>ah (decide ((a.toNat:Int)≥97)) (ah (!(bO t (⟨#[115,101,108,102]⟩:ByteArray))) (ah (!(bO t (⟨#[115,117,112,101,114]⟩:ByteArray))) (ah (!(bO t (⟨#[110,105,108]⟩:ByteArray))) (ah (!(bO t (⟨#[116,114,117,101]⟩:ByteArray))) (Q (aP (!(bO t (⟨#[102,97,108,115,101]⟩:ByteArray)))) b) (Q c b)) (Q c b)) (Q c b)) (Q c b)) (Q c b)) (Q c b)):ag PP 236 #[.string t] Q H :=
 okF Tryz.func236 rfl h
theorem DW (h:ah (cD a) (Q (ac 2) H) (ah (aX i 0) (Q (ac 1) H) (aE a fun b=>aK H (b.add 1) fun _ b _=>ah (bP i (b:Int)) (Q (ac 1) H) (cL [av none 0 0,ac 0] H fun b c d e f g j k=>ah (aX k i) (aE a fun a=>aK e (a.add 1) fun a i _=>bf k i a fun a=>cX e (bc a k 1) fun a=>bM (Builtin.append_ #[61,61] 61 #[av f g j,av (some (aL e.size)) 1 1]) (aJ e #[aO a] 9) fun a f g i=>bm b c [av a f g,ac (aI (k+1))] i d e) (aE a fun a=>bj e (a.add 1) (av f g j) fun a=>Q (ac 0) a))))):ag PP 243 #[.pointer a,ac i] Q H :=
 okL Tryz.func243 rfl (fun | 7=>some [(5,61),(6,3)] | _=>none) h
theorem Gz (h:ax (aP false) fun a=>ah (Int.tmod i 2 != 0) (ah (decide (i≥(-2147483647))) (Q (aP (decide (i<=2147483647))) H) (Q a H)) (ah (Int.tmod i 4 == 0) (ah (decide (i≥4)) (Q (aP (decide (i<=262144))) H) (Q a H)) (ah (decide (i≥2)) (Q (aP (decide (i<=16382))) H) (Q a H)))):ag PP 244 #[ac i] Q H :=
 okF Tryz.func244 rfl h
theorem GN (h:aC 225 #[ac i] H fun a b=>ah (a != 3) (Q (aA 0 10) b) (Q (aA (aI (Int.tdiv i 4)) 0) b)):ag PP 245 #[ac i] Q H :=
 okF Tryz.func245 rfl h
theorem KG (h:bk 317 #[ac i] H fun a b=>ah a (bk 317 #[ac j] b fun a b=>ah (!a) (Q (aP true) b) (Q (aP (aX i j)) b)) (Q (aP (aX i j)) b)):ag PP 246 #[ac i,ac j] Q H :=
 okF Tryz.func246 rfl h
theorem EF (h:bk 322 #[ac i] H fun a b=>ah (!a) (Q (aA 0 1) b) (bk 322 #[ac j] b fun a b=>ah (!a) (Q (aA 0 1) b) (aC 323 #[ac (aI (i-j))] b fun a b=>Q (aA a 0) b))):ag PP 258 #[ac i,ac j] Q H :=
 okF Tryz.func258 rfl h
theorem HF (h:bk 322 #[ac i] H fun a b=>ah (!a) (Q (bJ #[aO (⟨#[]⟩:ByteArray),ac 1]) b) (ah (aX i 0) (eb 324 #[ac (aI (0-i))] b fun a _ b=>ax (⟨#[45]⟩:ByteArray) fun c=>ah (bP ((c.size+a.size:Nat):Int) IntKind.i64.max) False (Q (bJ #[aO (c++a),ac 0]) b)) (eb 324 #[ac i] b fun a b c=>Q (bJ #[aO a,ac b]) c))):ag PP 259 #[ac i] Q H :=
 okF Tryz.func259 rfl h
theorem HV {g1:Array Value}{h1:Array Value}(h:bX [ac 0] H fun b c d e f=>ah (aX f (l:Int)) (bf f l a fun a=>ay e (bc a f 1) fun a=>bk r (g1++#[ac a]++h1) e fun a g=>ah a (Q (ac f) g) (bm b c [ac (aI (f+1))] g d e)) (Q (ac (-1)) e)):ag PP 267 #[.slice a l o,.func (.func r) g1 h1] Q H :=
 okL Tryz.func267 rfl (fun | 2=>some [(8,3)] | _=>none) h
theorem zx (h:bk 31 #[ac i] H fun a b=>ah (!a) (Q (aA 0 1) b) (Q (aA (wJ .i64 (fu .i64 i 1) 1) 0) b)):ag PP 268 #[ac i] Q H :=
 okF Tryz.func268 rfl h
theorem E7 (h:aC 13 #[ac i] H fun a b=>ah (a != 1) (Q (aA 0 10) b) (Q (aA (iL .i64 i 1) 0) b)):ag PP 274 #[ac i] Q H :=
 okF Tryz.func274 rfl h
theorem Fm (h:bX [ac 0] H fun b c d e f=>ah (aX f (l:Int)) (bf f l a fun a=>cX e (bc a f 1) fun a=>ah (bO t a) (Q (ac f) e) (bm b c [ac (aI (f+1))] e d e)) (Q (ac (-1)) e)):ag PP 278 #[.slice a l o,.string t] Q H :=
 okL Tryz.func278 rfl (fun | 2=>some [(8,3)] | _=>none) h
theorem DO (h:bk 31 #[ac i] H fun a b=>ah (!a) (Q (aA 0 1) b) (bk 31 #[ac j] b fun a b=>ah (!a) (Q (aA 0 1) b) (aC 352 #[ac k] b fun a b=>Q (aA a 0) b))):ag PP 297 #[ac i,ac j,ac k] Q H :=
 okF Tryz.func297 rfl h
theorem Gi (h:bk 31 #[ac i] H fun a b=>ax (ac 0) fun c=>ax (bJ #[c,c,ac 1]) fun d=>ah (!a) (Q d b) (bk 31 #[ac j] b fun a b=>ah (!a) (Q d b) (ah (j == 0) (Q (bJ #[c,c,ac 11]) b) (ah (decide (j=0)) False (ah (decide (j=0)) False (ax (Int.tmod i j) fun a=>ax (aI (Int.tdiv i j)) fun d=>ah (a != 0) (ah (!(aX a 0 == aX j 0)) (aC 352 #[ac (aI (d-1))] b fun b d=>Q (bJ #[ac b,ac (aI (a+j)),c]) d) (aC 352 #[ac d] b fun b d=>Q (bJ #[ac b,ac a,c]) d)) (aC 352 #[ac d] b fun b d=>Q (bJ #[ac b,ac a,c]) d))))))):ag PP 298 #[ac i,ac j] Q H :=
 okF Tryz.func298 rfl h
theorem GB (h:bk 31 #[ac i] H fun a b=>ah (!a) (Q (bJ #[aO (⟨#[]⟩:ByteArray),ac 1]) b) (eI 353 #[ac i] b fun a b=>Q (bJ #[aO a,ac 0]) b)):ag PP 301 #[ac i] Q H :=
 okF Tryz.func301 rfl h
theorem Kx (h:ax (aP false) fun a=>ax (t.size:Int) fun b=>ah (aX b 1) (Q a H) (ah (bP b 32) (Q a H) (jb 0 t fun c=>bk 362 #[.int .u8 (c.toNat:Int)] H fun c d=>ah (!c) (Q a d) (bX [ac 0] d fun c d e f g=>ah (aX g b) (jb g t fun b=>bk 362 #[.int .u8 (b.toNat:Int)] f fun b i=>ah (!b) (jb g t fun b=>ah (aX (b.toNat:Int) 48) (Q a i) (jb g t fun b=>ah (bP (b.toNat:Int) 57) (Q a i) (bm c d [ac (aI (g+1))] i e f))) (bm c d [ac (aI (g+1))] i e f)) (Q (aP true) f))))):ag PP 312 #[.string t] Q H :=
 okL Tryz.func312 rfl (fun | 4=>some [(3,3)] | _=>none) h
theorem Et (h:Lx [ac i,av none 0 0] H fun c d e f g i k m=>ah (decide (g≥0)) (ax (Builtin.append_ #[306,306] 306 #[av i k m,av (some (aL f.size)) 1 1]) fun i=>ah (g == j) (bM i (aJ f #[av b r s] 61) fun b i j k=>bf g l a fun m=>cX k ((bc m g 4).add 1) fun m=>aC 363 #[av a l o,ac g,aO m] k fun a g=>bm c d [ac a,av b i j] g e f) (bf g l a fun b=>aK f ((bc b g 4).add 2) fun b j k=>bM i (aJ f #[av b j k] 61) fun b i j k=>bf g l a fun m=>cX k ((bc m g 4).add 1) fun m=>aC 363 #[av a l o,ac g,aO m] k fun a g=>bm c d [ac a,av b i j] g e f)) (cL [av none 0 0,ac (aI ((k:Int)-1))] f fun a b c d e f g j=>ah (decide (j≥0)) (cL [av e f g,ac 0] d fun e f g l m n o p=>bf j k i fun q=>aK l (bc q j 1) fun _ q _=>ah (aX p (q:Int)) (bf j k i fun a=>aK l (bc a j 1) fun a b _=>bf p b a fun a=>cX l (bc a p 1) fun a=>bM (Builtin.append_ #[61,61] 61 #[av m n o,av (some (aL l.size)) 1 1]) (aJ l #[aO a] 9) fun a b c d=>bm e f [av a b c,ac (aI (p+1))] d g l) (bm a b [av m n o,ac (aI (j-1))] l c d)) (Q (av e f g) d))):ag PP 315 #[.slice a l o,ac i,ac j,.slice b r s] Q H :=
 okL Tryz.func315 rfl (fun | 2=>some [(1,3),(9,306)] | 9=>some [(10,61),(11,3)] | 12=>some [(10,61),(12,3)] | _=>none) h
theorem Hm (h:Q (aP (i != i)) H):ag PP 317 #[ac i] Q H :=
 okF Tryz.func317 rfl h
theorem HI (h:aC 225 #[ac i] H fun a b=>ah (a != 1) (Q (aA 0 10) b) (Q (aA (aI (Int.tdiv (aI (i-1)) 2)) 0) b)):ag PP 321 #[ac i] Q H :=
 okF Tryz.func321 rfl h
theorem Lf (h:ah (decide (i≥(-1073741824))) (Q (aP (decide (i<=1073741823))) H) (Q (aP false) H)):ag PP 322 #[ac i] Q H :=
 okF Tryz.func322 rfl h
theorem E0 (h:aC 365 #[ac i] H fun a b=>ah (bP a 1073741823) (Q (ac (aI (a-2147483648))) b) (Q (ac a) b)):ag PP 323 #[ac i] Q H :=
 okF Tryz.func323 rfl h
theorem Iu (h:ax (⟨#[48,49,50,51,52,53,54,55,56,57]⟩:ByteArray) fun a=>ax (Int.tmod i 10) fun b=>ax (aI (b+1)) fun c=>ax (a.size:Int) fun d=>ax (0:Int) fun e=>((e<=c∧c<=d)∧e<=b∧b<=c)∧Ly [ac i,aO (a.extract (Int.toNat b) (Int.toNat c))] H fun b c f g i j=>ah (bP i 9) (ax (aI (Int.tdiv i 10)) fun i=>ax (Int.tmod i 10) fun k=>ax (aI (k+1)) fun l=>((e<=l∧l<=d)∧e<=k∧k<=l)∧ax (a.extract (Int.toNat k) (Int.toNat l)) fun a=>ah (bP ((a.size+j.size:Nat):Int) IntKind.i64.max) False (bm b c [ac i,aO (a++j)] g f g)) (Q (bJ #[aO j,ac 0]) g)):ag PP 324 #[ac i] Q H :=
 okL Tryz.func324 rfl (fun | 2=>some [(0,3),(4,9)] | _=>none) h
theorem IK (h:bk 322 #[ac i] H fun a b=>ah (!a) (Q (aA 0 1) b) (bk 322 #[ac j] b fun a b=>ah (!a) (Q (aA 0 1) b) (aC 323 #[ac (aI (i+j))] b fun a b=>Q (aA a 0) b))):ag PP 325 #[ac i,ac j] Q H :=
 okF Tryz.func325 rfl h
theorem DA (h:bk 322 #[ac i] H fun a b=>ah (!a) (Q (aA 0 1) b) (bk 322 #[ac j] b fun a b=>ah (!a) (Q (aA 0 1) b) (aC 323 #[ac (aI (i*j))] b fun a b=>Q (aA a 0) b))):ag PP 326 #[ac i,ac j] Q H :=
 okF Tryz.func326 rfl h
theorem FO (h:bk 322 #[ac i] H fun a b=>ah (!a) (Q (aA 0 1) b) (bk 322 #[ac j] b fun a b=>ah (!a) (Q (aA 0 1) b) (ah (j == 0) (Q (aA 0 11) b) (aC 366 #[ac i,ac j] b fun a b=>aC 323 #[ac a] b fun a b=>Q (aA a 0) b)))):ag PP 327 #[ac i,ac j] Q H :=
 okF Tryz.func327 rfl h
theorem Gk (h:bk 322 #[ac i] H fun a b=>ah (!a) (Q (aA 0 1) b) (bk 322 #[ac j] b fun a b=>ah (!a) (Q (aA 0 1) b) (ah (j == 0) (Q (aA 0 11) b) (aC 366 #[ac i,ac j] b fun a b=>Q (aA (aI (i-aI (a*j))) 0) b)))):ag PP 328 #[ac i,ac j] Q H :=
 okF Tryz.func328 rfl h
theorem Kp (h:bk 322 #[ac i] H fun a b=>ah (!a) (Q (aA 0 1) b) (bk 322 #[ac j] b fun a b=>ah (!a) (Q (aA 0 1) b) (aC 367 #[ac i,ac j,aP false,aP true] b fun a b=>Q (aA a 0) b))):ag PP 329 #[ac i,ac j] Q H :=
 okF Tryz.func329 rfl h
theorem Ek (h:bk 322 #[ac i] H fun a b=>ah (!a) (Q (aA 0 1) b) (bk 322 #[ac j] b fun a b=>ah (!a) (Q (aA 0 1) b) (aC 367 #[ac i,ac j,aP true,aP true] b fun a b=>Q (aA a 0) b))):ag PP 330 #[ac i,ac j] Q H :=
 okF Tryz.func330 rfl h
theorem GV (h:bk 322 #[ac i] H fun a b=>ah (!a) (Q (aA 0 1) b) (bk 322 #[ac j] b fun a b=>ah (!a) (Q (aA 0 1) b) (aC 367 #[ac i,ac j,aP true,aP false] b fun a b=>Q (aA a 0) b))):ag PP 331 #[ac i,ac j] Q H :=
 okF Tryz.func331 rfl h
theorem Hp (h:bk 322 #[ac i] H fun a b=>ah (!a) (Q (aA 0 1) b) (bk 322 #[ac j] b fun a b=>ah (!a) (Q (aA 0 1) b) (js [ac i,ac 0] b fun a b c d e f=>ah (aX f j) (ah (aX f 31) (aC 323 #[ac (aI (2*e))] d fun e g=>bm a b [ac e,ac (aI (f+1))] g c d) (js [ac e,ac 0] d fun a b c d e f=>ah (bP f j) (ah (bP f (-31)) (aC 366 #[ac e,ac 2] d fun e g=>bm a b [ac e,ac (aI (f-1))] g c d) (Q (aA e 0) d)) (Q (aA e 0) d))) (js [ac e,ac 0] d fun a b c d e f=>ah (bP f j) (ah (bP f (-31)) (aC 366 #[ac e,ac 2] d fun e g=>bm a b [ac e,ac (aI (f-1))] g c d) (Q (aA e 0) d)) (Q (aA e 0) d))))):ag PP 332 #[ac i,ac j] Q H :=
 okL Tryz.func332 rfl (fun | 4=>some [(0,3),(6,3)] | 8=>some [(0,3),(7,3)] | _=>none) h
theorem K6 (h:aC 225 #[ac i] H fun a b=>ah (a != 2) (Q (aA 0 10) b) (Q (aA (aI (Int.tdiv (aI (i-2)) 4)) 0) b)):ag PP 333 #[ac i] Q H :=
 okF Tryz.func333 rfl h
theorem ER (h:ax (aO (⟨#[]⟩:ByteArray)) fun b=>ah (cD a) (Q (bJ #[b,ac 2]) H) (ax (bJ #[b,ac 61]) fun b=>ah (aX i 0) (Q b H) (aE a fun c=>aK H (c.add 1) fun _ c _=>ah (decide (i≥(c:Int))) (Q b H) (aE a fun a=>aK H (a.add 1) fun a b _=>bf i b a fun a=>cX H (bc a i 1) fun a=>Q (bJ #[aO a,ac 0]) H)))):ag PP 334 #[.pointer a,ac i] Q H :=
 okF Tryz.func334 rfl h
theorem Ib (h:aC 13 #[ac i] H fun a b=>ah (a != 2) (Q (aA 0 10) b) (Q (aA (iL .i64 i 2) 0) b)):ag PP 336 #[ac i] Q H :=
 okF Tryz.func336 rfl h
theorem Iw (h:bk 90 #[am a] H fun b c=>ax (aO (⟨#[]⟩:ByteArray)) fun d=>ah b (Q (bJ #[d,ac 2]) c) (ax (bJ #[d,ac 61]) fun b=>ah (aX i 0) (Q b c) (aE a fun d=>aK c (d.add 1) fun _ d _=>ah (decide (i≥(d:Int))) (Q b c) (aE a fun a=>aK c (a.add 1) fun a b _=>bf i b a fun a=>cX c (bc a i 1) fun a=>Q (bJ #[aO a,ac 0]) c)))):ag PP 337 #[.pointer a,ac i] Q H :=
 okF Tryz.func337 rfl h
theorem Dp (h:Q (ac (iL .i64 (fu .i64 i 33) 33)) H):ag PP 352 #[ac i] Q H :=
 okF Tryz.func352 rfl h
theorem Fy (h:ax (aP (decide (i<=90))) fun a=>ax (decide (i≥65)) fun b=>ah (decide (i≥97)) (ah (decide (i<=122)) (Q (aP true) H) (ah b (Q a H) (Q (aP false) H))) (ah b (Q a H) (Q (aP false) H))):ag PP 362 #[.int .u8 i] Q H :=
 okF Tryz.func362 rfl h
theorem IV (h:bX [ac 0] H fun b c d e f=>ah (aX f i) (bf f l a fun a=>cX e (bc a f 4) fun a=>ah (bO a t) (Q (ac f) e) (bm b c [ac (aI (f+1))] e d e)) (Q (ac (-1)) e)):ag PP 363 #[.slice a l o,ac i,.string t] Q H :=
 okL Tryz.func363 rfl (fun | 2=>some [(7,3)] | _=>none) h
theorem Kc (h:ax (Int.tmod i 2147483648) fun a=>ah (aX a 0) (Q (ac (aI (a+2147483648))) H) (Q (ac a) H)):ag PP 365 #[ac i] Q H :=
 okF Tryz.func365 rfl h
theorem D9 (h:ah (decide (j=0)) False (ah (decide (j=0)) False (ax (aI (Int.tdiv i j)) fun a=>ah (Int.tmod i j != 0) (ah (!(aX i 0 == aX j 0)) (Q (ac (aI (a-1))) H) (Q (ac a) H)) (Q (ac a) H)))):ag PP 366 #[ac i,ac j] Q H :=
 okF Tryz.func366 rfl h
theorem GI (h:aC 365 #[ac i] H fun a b=>aC 365 #[ac j] b fun b c=>uI [ac a,ac b,ac 0,ac 1,ac 0] c fun a b c d f g i j k=>ax (ac i) fun l=>ah (aX k 31) (ax (ac (aI (Int.tdiv f 2))) fun m=>ax (ac (aI (Int.tdiv g 2))) fun n=>ax (ac (aI (2*j))) fun o=>ax (ac (aI (k+1))) fun k=>ax (aI (Int.tmod f 2+Int.tmod g 2)) fun f=>ax (ac (aI (i+j))) fun g=>ah (f == 1) (ah e (bm a b [m,n,g,o,k] d c d) (ah (f == 2) (ah E (bm a b [m,n,g,o,k] d c d) (bm a b [m,n,l,o,k] d c d)) (bm a b [m,n,l,o,k] d c d))) (ah (f == 2) (ah E (bm a b [m,n,g,o,k] d c d) (bm a b [m,n,l,o,k] d c d)) (bm a b [m,n,l,o,k] d c d))) (aC 323 #[l] d fun a b=>Q (ac a) b)):ag PP 367 #[ac i,ac j,.bool e,.bool E] Q H :=
 okL Tryz.func367 rfl (fun | 6=>some [(9,3),(10,3),(11,3),(12,3),(13,3)] | _=>none) h
theorem GX (h:Q (ac (aI (Int.tdiv (aI (i-1)) 2))) H):ag PP 389 #[ac i] Q H :=
 okF Tryz.func389 rfl h
end
end Go.Proofs.YtgjfejoohojokaaGreatDoor
namespace Kw
open Go
theorem ae {p:Prop} [Decidable p] {X Y:Prop}:cond (decide p) X Y↔if p then X else Y:=by
 by_cases h:p <;> simp [h]
theorem vo {b:Bool}{X Y:Prop}:cond b X Y↔(b=true->X)∧(b=false->Y):=by cases b <;> simp
theorem aD {p:Prop} [Decidable p] {X Y:Prop} (h1:p->X) (h2:¬ p->Y):if p then X else Y:=by
 split
 ·rename_i h;exact h1 h
 ·rename_i h;exact h2 h
theorem ao {n:Int} (h1:-9223372036854775808<=n) (h2:n<=9223372036854775807):IntKind.wrap .i64 n=n:=by
 simp only [IntKind.wrap,IntKind.bits,IntKind.signed];simp;omega
theorem AD {a b:ByteArray}:bO a b=true↔a=b:=by
 unfold bO;rw [beq_iff_eq,ByteArray.toList_eq,ByteArray.toList_eq];constructor
 ·intro h;obtain ⟨⟨a⟩⟩:=a;obtain ⟨⟨b⟩⟩:=b;simp only at h;rw [h]
 ·intro h;rw [h]
theorem cV (a b:ByteArray):bO a b=decide (a=b):=by
 rw [a2L,AD];simp
abbrev aS:=List Nat
def Fr (F:aS) (H H':au):Prop:=H.size<=H'.size∧∀ b,b<H.size->b∉F->H'[b]?=H[b]?
theorem Fr.refl (F:aS) (H:au):Fr F H H:=⟨a0U _,fun _ _ _=>rfl⟩
theorem Fr.trans {F:aS}{H H' H'':au} (h:Fr F H H') (h':Fr F H' H''):Fr F H H'' :=
 ⟨a0O h.1 h'.1,fun b hb hn=>(h'.2 b (a0X hb h.1) hn).trans (h.2 b hb hn)⟩
theorem Fr.mono {F F':aS}{H H':au} (h:Fr F H H') (hs:∀ b∈F,b∈F'):Fr F' H H':=⟨h.1,fun b hb hn=>h.2 b hb fun hm=>hn (hs b hm)⟩
theorem Fr.of_nil {F:aS}{H H':au} (h:Fr [] H H'):Fr F H H':=h.mono (by simp)
theorem Fr.push (F:aS) (H:au) (o:Obj):Fr F H (H.push o):=⟨by simp,fun b hb _=>by rw [a2D];simp;omega⟩
def Up (F:aS) (H:au) (F':aS) (H':au):Prop:=Fr F H H'∧∀ b∈F',b∈F∨H.size<=b
theorem Up.refl (F:aS) (H:au):Up F H F H:=⟨Fr.refl F H,fun _ h=>.inl h⟩
theorem Up.trans {F F' F'':aS}{H H' H'':au} (h:Up F H F' H') (h':Up F' H' F'' H''):Up F H F'' H'':=by
 refine ⟨⟨a0O h.1.1 h'.1.1,fun b hb hn=>?_⟩,fun b hb=>?_⟩
 ·rw [h'.1.2 b (a0X hb h.1.1) fun hm=>(h.2 b hm).elim hn (fun JR=>absurd hb (by omega)),h.1.2 b hb hn]
 ·rcases h'.2 b hb with h1 | h1
  ·exact h.2 b h1
  ·exact .inr (a0O h.1.1 h1)
def bI (H:au) (b:Nat) (c:Array Value):Prop:=∃ t,H[b]?=some (.cells c t (0,0))
theorem bI.lt {H:au}{b:Nat}{c:Array Value} (h:bI H b c):b<H.size:=by
 obtain ⟨t,h⟩:=h;exact (a1j.1 h).1
theorem bI.cell {H:au}{b:Nat}{c:Array Value} (h:bI H b c) (o:Nat):aq H ⟨b,o,none⟩=c[o]?:=by
 obtain ⟨t,h⟩:=h;simp [aq,h]
theorem bI.frozen {H:au}{b:Nat}{c:Array Value} (h:bI H b c) (o:Nat):pR H ⟨b,o,none⟩=false:=by
 obtain ⟨t,h⟩:=h;simp [pR,h]
theorem bI.wr {H:au}{b:Nat}{c:Array Value} (h:bI H b c){o:Nat} (ho:o<c.size):Wr H ⟨b,o,none⟩ :=
 ⟨⟨c[o],by rw [h.cell];simp [ho]⟩,h.frozen o⟩
theorem bI.uniq {H:au}{b:Nat}{c c':Array Value} (h:bI H b c) (h':bI H b c'):c=c':=by
 obtain ⟨t,h⟩:=h;obtain ⟨t',h'⟩:=h';rw [h] at h';cases h';rfl
theorem bI.of_eq {H H':au}{b:Nat}{c:Array Value} (h:bI H b c) (he:H'[b]?=H[b]?):bI H' b c:=by
 obtain ⟨t,h⟩:=h;exact ⟨t,he.trans h⟩
theorem bI.fr {F:aS}{H H':au}{b:Nat}{c:Array Value} (h:bI H b c) (hf:Fr F H H') (hb:b∉F):bI H' b c:=h.of_eq (hf.2 b h.lt hb)
theorem bI.push {H:au}{b:Nat}{c:Array Value} (h:bI H b c) (o:Obj):bI (H.push o) b c:=h.fr (Fr.push [] H o) (by simp)
theorem bI.new (H:au) (c:Array Value) (t:TypeId):bI (H.push (.cells c t)) H.size c:=⟨t,by simp⟩
theorem ck (H:au) (a:Addr) (v:Value):(aQ H a v).size=H.size:=by simp [aQ]
theorem cP {H:au}{a:Addr}{v:Value}{b:Nat} (h:b≠a.block):(aQ H a v)[b]?=H[b]?:=by
 simp [aQ,a2a,a3t h]
theorem bI.set {H:au}{b:Nat}{c:Array Value} (h:bI H b c) (o:Nat) (v:Value):bI (aQ H ⟨b,o,none⟩ v) b (c.setIfInBounds o v):=by
 obtain ⟨t,h⟩:=h;exact ⟨t,by simp [aQ,a2a,h]⟩
theorem bI.set_ne {H:au}{b:Nat}{c:Array Value} (h:bI H b c){a:Addr} (hb:b≠a.block) (v:Value):bI (aQ H a v) b c:=h.of_eq (cP hb)
theorem Fr.set {F:aS}{H:au}{a:Addr}{v:Value} (h:a.block∈F):Fr F H (aQ H a v) :=
 ⟨by rw [ck];exact a0U _,fun b _ hn=>cP fun e=>hn (e ▸ h)⟩
@[simp] theorem aB (b o n:Nat):(⟨b,o,none⟩:Addr).add n=⟨b,o+n,none⟩:=by
 unfold Addr.add;split <;> simp_all
theorem Cu {P:Program}{α β:Type} (m:Sem α) (f:α->Sem β):∀ {Q:β->au->Prop}{H:au},cB P m (fun a H'=>cB P (f a) Q H') H->cB P (m.bind f) Q H:=by
 induction m with
 | pure a=>exact fun h=>h
 | load m a k ih=>exact fun ⟨v,hv,h⟩=>⟨v,hv,ih v h⟩
 | store m a v k ih=>exact fun ⟨h1,h2,h⟩=>⟨h1,h2,ih h⟩
 | new o k ih=>exact fun {Q H} h=>ih H.size h
 | shape r k ih=>exact fun h=>ih _ h
 | freeze a n k ih=>exact fun h=>ih h
 | frozen a k ih=>exact fun h=>ih _ h
 | getObj r k ih=>exact fun ⟨o,h1,h2,h⟩=>⟨o,h1,h2,ih o h⟩
 | setObj r o k ih=>exact fun ⟨h1,h⟩=>⟨h1,ih h⟩
 | choose q k ih =>
  intro Q H h;simp only [Sem.bind,cB] at h ⊢;split at h
  ·rename_i hf;rw [a0b hf];exact ih 0 h
  ·rename_i hf;rw [a0a hf];exact fun t=>ih _ (h t)
 | sys c k ih=>exact fun h=>h.elim
 | program k ih=>exact fun h=>ih P h
 | mark m k ih=>exact fun h=>ih h
 | halt h=>exact fun h=>h.elim
theorem aH {P:Program}{α β:Type}{m:Sem α}{f:α->Sem β}{Q:β->au->Prop}{H:au} (h:cB P m (fun a H'=>cB P (f a) Q H') H):cB P (m >>= f) Q H:=Cu m f h
theorem bF {P:Program}{t:TypeId}{d:TypeDesc} (hu:P.underlying t=some d){Q:TypeDesc->au->Prop}{H:au} (h:Q d H):cB P (underlying t) Q H:=by
 show cB P (match P.underlying t with | some d => pure d | none => stuck "no such type") Q H
 rw [hu];exact h
theorem dC {P:Program}{t:TypeId}{d:TypeInfo} (hu:P.info? t=some d){Q:TypeInfo->au->Prop}{H:au} (h:Q d H):cB P (typeInfo t) Q H:=by
 show cB P (match P.info? t with | some d => pure d | none => stuck "no such type") Q H
 rw [hu];exact h
theorem zO {P:Program}{src dst e:TypeId}{s:ByteArray}{Q:Value->au->Prop}{H:au} (h1:P.underlying src=some .string) (h2:P.underlying dst=some (.slice e)) (h3:P.underlying e=some (.int .u8))
  (h:∀ cap H',Fr [] H H'->(∀ i,i<s.size->aq H' ⟨H.size,i,none⟩=some (.int .u8 (((s[i]?.getD 0).toNat:Nat):Int)))->Q (.slice (some ⟨H.size,0,none⟩) s.size cap) H'):cB P (convert src dst (.string s)) Q H:=by
 refine aH (bF h1 (aH (bF h2 (aH (bF h3 ?_)))));show cB P (Conv.stringToBytes e s) Q H;unfold Conv.stringToBytes;simp only [cB,choose,newRow,newObj,bind,Sem.bind,Question.forced,a1M,if_false,pure];intro t;generalize hcs:((s.data.map fun b=>Value.int .u8 b.toNat)++Array.replicate (Question.cut (.appendCap s.size 0 e) t-s.size) (.int .u8 0))=cs;have Jg:kZ (H.push (.cells cs e)) H.size=some (e,cs.size):=by simp [kZ]
 simp only [markStringish,bind,Sem.bind,cB,shape,Jg,freeze,pure];refine h _ _ ?_ ?_
 ·refine ⟨by simp [fA],fun b hb _=>?_⟩;simp only [fA,Nat.succ_ne_self,if_false,a2a];rw [a0a (by omega),a2D,a0a (by omega)]
 ·intro i hi;have hc:cs[i]?=some (.int .u8 (((s[i]?.getD 0).toNat:Nat):Int)):=by
   rw [←hcs,a2Y (by simpa using hi)];simp [hi];rfl
  have hb:(fA (H.push (.cells cs e)) ⟨H.size,cs.size,none⟩ 1)[H.size]?=some (.cells cs e (cs.size,cs.size+1)):=by
   simp only [fA,Nat.succ_ne_self,if_false,a2a,a3E,if_true,a2Q,a3S]
  have k9:aq (fA (H.push (.cells cs e)) ⟨H.size,cs.size,none⟩ 1) ⟨H.size,i,none⟩=cs[i]?:=by
   unfold aq;simp only [hb];rfl
  rw [←hc];exact k9
def aU (w:Int):Int :=
 if w % 2=1∧-2147483647<=w∧w<=2147483647 then 1
 else if w % 4=2∧0<=w∧w<16384 then 2
 else if w % 4=0∧0<w∧w<=262144 then 3
 else 0
def dL (w:Int):Prop:=aU w≠0
instance (w:Int):Decidable (dL w):=inferInstanceAs (Decidable (aU w≠0))
def Ej (n:Int):Prop:=-9223372036854775808<=n∧n<=9223372036854775807
theorem iw (x:Int):((BitVec.ofInt 64 x).toNat:Int)=x % 18446744073709551616:=by
 rw [BitVec.toNat_ofInt]
 have:(0:Int)<=x % ((2 ^ 64:Nat):Int):=Int.emod_nonneg _ (by decide);omega
theorem kl {n:Int} (h0:0<=n) (h1:n<=9223372036854775807):IntKind.wrap .i64 n=n:=ao (by omega) h1
theorem oB (x:Int) (k m:Nat) (hm:m=2 ^ k-1) (hk:k<=62):nS .i64 x (m:Int)=x % ((2 ^ k:Nat):Int):=by
 have In:0<2 ^ k:=a31 k;have HS:2 ^ k<=2 ^ 62:=a2K (by decide) hk;have h62:(2:Nat) ^ 62=4611686018427387904:=by decide
 have e1:(BitVec.ofInt 64 x &&& BitVec.ofInt 64 (m:Int)).toNat=(BitVec.ofInt 64 x).toNat % 2 ^ k:=by
  rw [a4s]
  have:(BitVec.ofInt 64 (m:Int)).toNat=2 ^ k-1:=by
   have:=iw (m:Int);omega
  rw [this,Nat.and_two_pow_sub_one_eq_mod]
 have e2:(((BitVec.ofInt 64 x).toNat % 2 ^ k:Nat):Int)=x % ((2 ^ k:Nat):Int):=by
  have h1:=iw x
  push_cast
  rw [h1];have hd:((2:Int) ^ k) ∣ 18446744073709551616:=by
   have:(18446744073709551616:Int)=2 ^ k*2 ^ (64-k):=by
    rw [←Int.pow_add,show k+(64-k)=64 by omega];decide
   exact ⟨_,this⟩
  exact Int.emod_emod_of_dvd x hd
 unfold nS;show IntKind.wrap .i64 (((BitVec.ofInt 64 x &&& BitVec.ofInt 64 (m:Int)).toNat:Nat):Int)=_;rw [e1,e2];have h3:0<=x % ((2 ^ k:Nat):Int):=Int.emod_nonneg _ (by omega);have h4:x % ((2 ^ k:Nat):Int)<((2 ^ k:Nat):Int):=Int.emod_lt_of_pos _ (by omega);exact kl h3 (by omega)
theorem PS (x:Int):nS .i64 x 3=x % 4:=oB x 2 3 rfl (by decide)
theorem za (x:Int):nS .i64 x 1=x % 2:=oB x 1 1 rfl (by decide)
theorem Hn (x:Int):nS .i64 x 255=x % 256:=oB x 8 255 rfl (by decide)
theorem lW (x:Int) (k:Nat) (hk:k<=64):iL .i64 x (k:Int)=x / ((2 ^ k:Nat):Int):=by
 unfold iL
 have:min (Int.toNat (k:Int)) (IntKind.bits .i64)=k:=by simp only [a0j,IntKind.bits];omega
 rw [this,Int.fdiv_eq_ediv_of_nonneg _ (Int.pow_nonneg (by decide))]
 push_cast
 rfl
theorem IH (x:Int):iL .i64 x 1=x / 2:=lW x 1 (by decide)
theorem N0 (x:Int):iL .i64 x 2=x / 4:=lW x 2 (by decide)
theorem mX (x:Int) (k:Nat) (hk:k<=64) (h:Ej (x*((2 ^ k:Nat):Int))):fu .i64 x (k:Int)=x*((2 ^ k:Nat):Int):=by
 unfold fu
 have:min (Int.toNat (k:Int)) (IntKind.bits .i64)=k:=by simp only [a0j,IntKind.bits];omega
 rw [this];have e:x*2 ^ k=x*((2 ^ k:Nat):Int):=by push_cast;rfl
 rw [e];exact ao h.1 h.2
theorem qe (x:Int) (k m:Nat) (hk:k<=62) (hm:m<2 ^ k) (h:Ej x) (hx:x % ((2 ^ k:Nat):Int)=0):wJ .i64 x (m:Int)=x+m:=by
 have HS:2 ^ k<=2 ^ 62:=a2K (by decide) hk;have h62:(2:Nat) ^ 62=4611686018427387904:=by decide
 have In:0<2 ^ k:=a31 k;unfold wJ;show IntKind.wrap .i64 (((BitVec.ofInt 64 x ||| BitVec.ofInt 64 (m:Int)).toNat:Nat):Int)=_;rw [BitVec.toNat_or];have hmn:(BitVec.ofInt 64 (m:Int)).toNat=m:=by have:=iw (m:Int);omega
 have RV:=iw x;obtain ⟨q,hq⟩:∃ q,(BitVec.ofInt 64 x).toNat=2 ^ k*q:=by
  have hd:((2 ^ k:Nat):Int) ∣ 18446744073709551616:=by
   have:(18446744073709551616:Int)=((2 ^ k:Nat):Int)*((2 ^ (64-k):Nat):Int):=by
    rw [←a4D,←Nat.pow_add,show k+(64-k)=64 by omega];decide
   exact ⟨_,this⟩
  have h0:(((BitVec.ofInt 64 x).toNat:Int)) % ((2 ^ k:Nat):Int)=0:=by
   rw [RV,Int.emod_emod_of_dvd x hd,hx]
  exact Nat.dvd_of_mod_eq_zero (by exact_mod_cast h0)
 rw [hmn,hq,←Nat.two_pow_add_eq_or_of_lt hm,←hq]
 push_cast
 rw [RV];simp only [IntKind.wrap,IntKind.bits,IntKind.signed];obtain ⟨h1,h2⟩:=h;simp;have At:x+(m:Int)<9223372036854775808:=by
  obtain ⟨r,hr⟩:=Int.dvd_of_emod_eq_zero hx;have h9:(9223372036854775808:Int)=((2 ^ k:Nat):Int)*((2 ^ (63-k):Nat):Int):=by
   rw [←a4D,←Nat.pow_add,show k+(63-k)=63 by omega];decide
  have X2:r<((2 ^ (63-k):Nat):Int):=by
   by_cases h:r<((2 ^ (63-k):Nat):Int)
   ·exact h
   ·have h:((2 ^ (63-k):Nat):Int)<=r:=by omega
    have:=a4c h (by omega:(0:Int)<=((2 ^ k:Nat):Int));omega
  have:((2 ^ k:Nat):Int)*(r+1)<=((2 ^ k:Nat):Int)*((2 ^ (63-k):Nat):Int):=a4c (by omega) (by omega);rw [Int.mul_add,Int.mul_one] at this;omega
 omega
theorem QA (n:Int) (h:Ej (2*n)):wJ .i64 (2*n) 1=2*n+1:=qe (2*n) 1 1 (by decide) (by decide) h (by simp)
theorem Qw (n:Int) (h:Ej (4*n)):wJ .i64 (4*n) 2=4*n+2:=qe (4*n) 2 2 (by decide) (by decide) h (by simp)
theorem pP (x k:Int) (hk:0<k):Int.tmod x k=if 0<=x then x % k else -((-x) % k):=by
 split
 ·rename_i h;exact a2v h
 ·rename_i h
  have:Int.tmod x k=-Int.tmod (-x) k:=by rw [a4t,a4I]
  rw [this,a2v (by omega)]
theorem lM (x k:Int):Int.tdiv x k=if 0<=x then x / k else -((-x) / k):=by
 split
 ·rename_i h;exact a2y h
 ·rename_i h
  have:Int.tdiv x k=-Int.tdiv (-x) k:=by rw [Int.neg_tdiv,a4I]
  rw [this,a2y (by omega)]
theorem LI (w:Int):(Int.tmod w 2 != 0)=decide (w % 2=1):=by
 rw [pP _ _ (by decide),a2L,bne_iff_ne,decide_eq_true_eq];split <;> omega
theorem Ka (w:Int):(Int.tmod w 4 == 2)=decide (w % 4=2∧0<=w):=by
 rw [pP _ _ (by decide),a2L,beq_iff_eq,decide_eq_true_eq];split <;> omega
theorem uk (w:Int):(Int.tmod w 4 == 0)=decide (w % 4=0):=by
 rw [pP _ _ (by decide),a2L,beq_iff_eq,decide_eq_true_eq];split <;> omega
theorem bq (a b:Int):(a == b)=decide (a=b):=by rw [a2L];simp
theorem bn (a b:Int):(a != b)=decide (a≠b):=by rw [a2L];simp
theorem bE (w:Int):(aU w=1∧w % 2=1∧-2147483647<=w∧w<=2147483647)∨(aU w=2∧w % 4=2∧0<=w∧w<16384)∨(aU w=3∧w % 4=0∧0<w∧w<=262144) ∨
  (aU w=0∧¬ (w % 2=1∧-2147483647<=w∧w<=2147483647)∧¬ (w % 4=2∧0<=w∧w<16384)∧¬ (w % 4=0∧0<w∧w<=262144)):=by
 unfold aU;split
 ·rename_i h;exact .inl ⟨rfl,h⟩
 ·split
  ·rename_i h;exact .inr (.inl ⟨rfl,h⟩)
  ·split
   ·rename_i h;exact .inr (.inr (.inl ⟨rfl,h⟩))
   ·rename_i h1 h2 h3;exact .inr (.inr (.inr ⟨rfl,h1,h2,h3⟩))
end Kw
namespace Go.Proofs.YtgjfejoohojokaaGreatDoor
open Kw
def eM (H:au):Prop:=aq H ⟨bl,0,none⟩=some (ac 3)∧aq H ⟨bl,1,none⟩=some (ac 1)∧aq H ⟨bl,2,none⟩=some (ac 2)∧aq H ⟨bl,3,none⟩=some (ac 1)
theorem eM.fr {F:aS}{H H':au} (h:eM H) (hf:Fr F H H') (hn:bl∉F):eM H':=by
 have hb:bl<H.size:=by
  have h0:=h.1;unfold aq at h0;rcases a2t bl H.size with h1 | h1
  ·exact h1
  ·simp only [a2u h1] at h0;cases h0
 have he:=hf.2 _ hb hn;unfold eM aq at *;simp only [he];exact h
theorem E6 {n:Int}{Q:QT}{H:au} (h:Q (.bool (decide (-1073741824<=n∧n<=1073741823))) H):ag PP 31 #[ac n] Q H:=by
 apply Bx;dsimp only [aP,ah];simp only [ae];split
 ·rename_i h1;have h1:-1073741824<=n:=h1;simpa [h1] using h
 ·rename_i h1;have h1:¬ -1073741824<=n:=h1;simpa [h1] using h
theorem lm {w:Int}{Q:QT}{H:au} (hk:eM H) (h:Q (ac (aU w)) H):ag PP 13 #[ac w] Q H:=by
 apply MR;dsimp only [aN,bk,ah,bP,aX,ay,ac,ax];have fin:∀ c,aU w=c->Q (ac c) H:=fun c hc=>hc ▸ h;simp only [PS,IH,N0,aB,a0K,a0y,bq,ae];refine ⟨⟨by omega,by omega⟩,?_⟩;obtain ⟨k0,k1,k2,k3⟩:=hk;have hm:w % 4=0∨w % 4=1∨w % 4=2∨w % 4=3:=by omega
 have kc:=bE w;rcases hm with hm | hm | hm | hm <;> rw [hm]
 ·refine ⟨3,k0,?_⟩;simp only [show ¬ (3:Int)=1 by decide,show ¬ (3:Int)=2 by decide,if_false,if_true]
  repeat' split
  all_goals exact fin _ (by omega)
 ·refine ⟨1,k1,?_⟩;simp only [if_true,show ¬ (1:Int)=3 by decide,show ¬ (1:Int)=2 by decide,if_false];refine E6 ⟨_,rfl,?_⟩;simp only [vo];refine ⟨fun h1=>fin _ ?_,fun h1=>fin _ ?_⟩
  ·have:¬ (-1073741824<=w / 2∧w / 2<=1073741823):=by rw [a3x] at h1;exact of_decide_eq_false h1
   omega
  ·have:(-1073741824<=w / 2∧w / 2<=1073741823):=by simpa using h1
   omega
 ·refine ⟨2,k2,?_⟩;simp only [show ¬ (2:Int)=1 by decide,show ¬ (2:Int)=3 by decide,if_false,if_true]
  repeat' split
  all_goals exact fin _ (by omega)
 ·refine ⟨1,k3,?_⟩;simp only [if_true,show ¬ (1:Int)=3 by decide,show ¬ (1:Int)=2 by decide,if_false];refine E6 ⟨_,rfl,?_⟩;simp only [vo];refine ⟨fun h1=>fin _ ?_,fun h1=>fin _ ?_⟩
  ·have:¬ (-1073741824<=w / 2∧w / 2<=1073741823):=by rw [a3x] at h1;exact of_decide_eq_false h1
   omega
  ·have:(-1073741824<=w / 2∧w / 2<=1073741823):=by simpa using h1
   omega
theorem gn {w:Int}{Q:QT}{H:au} (h:Q (ac (aU w)) H):ag PP 225 #[ac w] Q H:=by
 apply Ii;dsimp only [ah,bP,aX,ac,mS,ax];have fin:∀ c,aU w=c->Q (ac c) H:=fun c hc=>hc ▸ h;simp only [LI,Ka,uk,ae];have kc:=bE w;refine ⟨fun vs H'=>vs=[]∧H'=H∧aU w≠1,?_,?_⟩
 ·repeat' split
  all_goals first
   | exact fin _ (by omega)
   | exact ⟨rfl,rfl,by omega⟩
 ·rintro vs H' ⟨rfl,rfl,hn⟩ _;refine ⟨rfl,?_⟩
  repeat' split
  all_goals exact fin _ (by omega)
theorem LK {n:Int}{Q:QT}{H:au} (hn:-1073741824<=n∧n<=1073741823) (h:Q (.tuple #[ac (2*n+1),ac 0]) H):ag PP 268 #[ac n] Q H:=by
 apply zx;dsimp only [aA,bk,ah,ac];refine E6 ⟨_,rfl,?_⟩;have e:fu .i64 n 1=2*n:=by
  have:=mX n 1 (by decide) ⟨by simp;omega,by simp;omega⟩;simpa [a3i] using this
 rw [e,QA n ⟨by omega,by omega⟩];simpa [hn] using h
theorem CS {n:Int}{Q:QT}{H:au} (hn:0<=n∧n<4096) (h:Q (.tuple #[ac (4*n+2),ac 0]) H):ag PP 146 #[ac n] Q H:=by
 apply Ew;dsimp only [aA,ah,aX];have e:fu .i64 n 2=4*n:=by
  have:=mX n 2 (by decide) ⟨by simp;omega,by simp;omega⟩;simpa [a3i] using this
 rw [e,Qw n ⟨by omega,by omega⟩];simp only [ae];rw [a0a (by omega),a0a (by omega)];exact h
theorem pr {n:Int}{Q:QT}{H:au} (hn:1<=n∧n<=65536) (h:Q (.tuple #[ac (4*n),ac 0]) H):ag PP 84 #[ac n] Q H:=by
 apply Bp;dsimp only [aA,ah,bP,aX];have e:fu .i64 n 2=4*n:=by
  have:=mX n 2 (by decide) ⟨by simp;omega,by simp;omega⟩;simpa [a3i] using this
 rw [e];simp only [ae];rw [a0a (by omega),a0a (by omega)];exact h
theorem LU {n:Int}{Q:QT}{H:au} (hn:n<1∨65536<n) (h:Q (.tuple #[ac 0,ac 1]) H):ag PP 84 #[ac n] Q H:=by
 apply Bp;dsimp only [aA,ah,bP,aX];simp only [ae];split
 ·exact h
 ·rw [a0b (by omega)];exact h
def mr (k:Int) (f:Int->Int) (w:Int):Value:=if aU w=k then .tuple #[ac (f w),ac 0] else .tuple #[ac 0,ac 10]
theorem qt {w:Int}{Q:QT}{H:au} (hk:eM H) (h:Q (mr 1 (· / 2) w) H):ag PP 274 #[ac w] Q H:=by
 apply E7;dsimp only [aA,aC,ah,ac];refine lm hk ⟨_,rfl,?_⟩;simp only [bn,ae,IH];unfold mr at h;split
 ·rename_i h1;rw [a0a h1] at h;exact h
 ·rename_i h1;rw [a0b (by simpa using h1)] at h;exact h
theorem tX {w:Int}{Q:QT}{H:au} (hk:eM H) (h:Q (mr 2 (· / 4) w) H):ag PP 336 #[ac w] Q H:=by
 apply Ib;dsimp only [aA,aC,ah,ac];refine lm hk ⟨_,rfl,?_⟩;simp only [bn,ae,N0];unfold mr at h;split
 ·rename_i h1;rw [a0a h1] at h;exact h
 ·rename_i h1;rw [a0b (by simpa using h1)] at h;exact h
theorem kJ {w:Int}{Q:QT}{H:au} (hk:eM H) (h:Q (mr 3 (· / 4) w) H):ag PP 89 #[ac w] Q H:=by
 apply MO;dsimp only [aA,aC,ah,ac];refine lm hk ⟨_,rfl,?_⟩;simp only [bn,ae,N0];unfold mr at h;split
 ·rename_i h1;rw [a0a h1] at h;exact h
 ·rename_i h1;rw [a0b (by simpa using h1)] at h;exact h
theorem B8 {w:Int}{Q:QT}{H:au} (h:Q (mr 3 (· / 4) w) H):ag PP 245 #[ac w] Q H:=by
 apply GN;dsimp only [aA,aC,ah,ac,aI];refine gn ⟨_,rfl,?_⟩;simp only [bn,ae];unfold mr at h;split
 ·rename_i h1;rw [a0a h1] at h;exact h
 ·rename_i h1;have h1:aU w=3:=by simpa using h1
  rw [a0b h1] at h;have kc:=bE w;have e:IntKind.wrap .i64 (Int.tdiv w 4)=w / 4:=by
   rw [lM,a0b (by omega)];exact ao (by omega) (by omega)
  rw [e];exact h
theorem eN {n:Int}{Q:QT}{H:au} (hn:1<=n∧n<=65536) (h:Q (ac (4*n)) H):ag PP 73 #[ac n] Q H:=by
 apply L0;exact pr hn ⟨_,_,rfl,h⟩
theorem lT {n:Int}{Q:QT}{H:au} (hn:-1073741824<=n∧n<=1073741823) (h:Q (ac (2*n+1)) H):ag PP 147 #[ac n] Q H:=by
 apply Hr;exact LK hn ⟨_,_,rfl,h⟩
theorem ce {n:Int}{Q:QT}{H:au} (hn:-1000000000000<=n∧n<=1000000000000) (h:Q (ac (4*n)) H):ag PP 40 #[ac n] Q H:=by
 apply Na;dsimp only [ac,aI];rw [ao (by omega) (by omega)];exact h
theorem uN {n:Int}{Q:QT}{H:au} (hn:-1000000000000<=n∧n<=1000000000000) (h:Q (ac (4*n+2)) H):ag PP 97 #[ac n] Q H:=by
 apply N8;dsimp only [ac,aI];rw [ao (n:=4*n) (by omega) (by omega),ao (by omega) (by omega)];exact h
theorem dW {n:Int}{Q:QT}{H:au} (hn:-1000000000000<=n∧n<=1000000000000) (h:Q (ac (2*n+1)) H):ag PP 22 #[ac n] Q H:=by
 apply NR;dsimp only [ac,aI];rw [ao (n:=2*n) (by omega) (by omega),ao (by omega) (by omega)];exact h
def gg (w:Int):Int:=if 0<w∧w % 4=0 then w / 4 else 0
theorem cR {w:Int}{Q:QT}{H:au} (hw:Ej w) (h:Q (ac (gg w)) H):ag PP 108 #[ac w] Q H:=by
 apply Fa;dsimp only [ah,bP,ac,aI];have fin:∀ c,gg w=c->Q (ac c) H:=fun c hc=>hc ▸ h;obtain ⟨h1,h2⟩:=hw;simp only [uk,ae];split
 ·split
  ·refine fin _ ?_;rw [lM,a0b (by omega),ao (by omega) (by omega)];unfold gg;rw [a0b ⟨by omega,by assumption⟩]
  ·refine fin _ ?_;unfold gg;rw [a0a (by omega)]
 ·refine fin _ ?_;unfold gg;rw [a0a (by omega)]
theorem yI {w:Int}{Q:QT}{H:au} (h:Q (.bool (decide (dL w))) H):ag PP 244 #[ac w] Q H:=by
 apply Gz;dsimp only [aP,ah,ax];have kc:=bE w;have fin:∀ p:Prop,∀ [Decidable p],(aU w≠0↔p)->Q (.bool (decide p)) H:=fun p _ hp=>by
  have:decide (dL w)=decide p:=by rw [a2L,decide_eq_true_iff,decide_eq_true_iff];exact hp
  rw [←this];exact h
 have fin0:aU w=0->Q (.bool false) H:=fun h0=>fin False (by simp [h0]);simp only [LI,uk,ae]
 repeat' split
 all_goals first
  | exact fin0 (by omega)
  | exact fin _ (by omega)
end Go.Proofs.YtgjfejoohojokaaGreatDoor
namespace Kw
open Go
def bd (P:Program) (t:TypeId):Option (Nat × Nat × Option Value) :=
 match P.underlying t with
 | some (.slice e)=>(P.info? e).map fun i=>(i.size,i.bytes,i.zero)
 | _=>none
theorem fK {P:Program}{t k bs:Nat}{z:Option Value} (h:bd P t=some (k,bs,z)):∃ e i,P.underlying t=some (.slice e)∧P.info? e=some i∧i.size=k∧i.bytes=bs∧i.zero=z:=by
 unfold bd at h;split at h
 ·rename_i e he;cases hi:P.info? e with
  | none=>simp [hi] at h
  | some i=>simp [hi] at h;exact ⟨e,i,he,hi,h⟩
 ·cases h
section evS
variable {P:Program}{H:au}
theorem jc {t:TypeId}{i:TypeInfo} (hi:P.info? t=some i){Q:Nat->au->Prop} (h:Q i.size H):cB P (Go.sizeOf t) Q H :=
 aH (dC hi h)
theorem eA {t:TypeId}{i:TypeInfo}{z:Value} (hi:P.info? t=some i) (hz:i.zero=some z){Q:Value->au->Prop} (h:Q z H):cB P (zeroValue t) Q H :=
 aH (dC hi (by rw [hz];exact h))
theorem fg {α:Type}{a:α}{Q:α->au->Prop} (h:Q a H):cB P (Sem.pure a) Q H:=h
theorem jx {n:Nat}{Q:Unit->au->Prop} (h:Q () H):cB P (askRoom n) Q H:=by
 unfold askRoom;split
 ·exact h
 ·exact h
theorem Am (z:Value) (n:Nat) (hz:z.cells=#[z]):(Array.range n).map (fun i=>z.cells[i % z.cells.size]!)=Array.replicate n z:=by
 rw [hz];apply a4C
 ·simp
 ·intro i h1 h2;simp [Nat.mod_one]
theorem dQ {T:TypeId}{bs:Nat}{z:Value}{l c:Int}{Q:Value->au->Prop} (hs:bd P T=some (1,bs,some z)) (hz:z.cells=#[z]) (h0:0<=l) (h1:l<=c) (h2:c<=1099511627776) (hb:bs<=128)
  (h:∀ e,Q (.slice (some ⟨H.size,0,none⟩) l.toNat c.toNat) (H.push (.cells (Array.replicate c.toNat z) e))):cB P (Instr.makeSlice T (.int .i64 l) (.int .i64 c)) Q H:=by
 obtain ⟨e,i,hu,hi,hk,RX,OH⟩:=fK hs;unfold Instr.makeSlice;refine aH (bF hu ?_);refine aH ?_;show cB P (asInt (.int .i64 l)) _ H;simp only [asInt,asIntOf,bind,Sem.bind,pure,cB];refine aH (dC hi ?_);have wl:IntKind.i64.wrap l=l:=ao (by omega) (by omega);have wc:IntKind.i64.wrap c=c:=ao (by omega) (by omega);have hbc:(bs:Int)*c<=128*1099511627776:=by
  refine Int.le_trans (a32 (by omega:(bs:Int)<=128) (by omega)) (by omega)
 have hcond:(decide (c<0) || decide ((i.bytes:Int)*c > 2 ^ 48) || decide (l<0) || decide (l > c))=false:=by
  rw [RX];have e1:¬ c<0:=by omega
  have e2:¬ (bs:Int)*c > 2 ^ 48:=by
   have:(2:Int) ^ 48=281474976710656:=by decide
   omega
  have e3:¬ l<0:=by omega
  have e4:¬ l > c:=by omega
  simp only [e1,e2,e3,e4,decide_false,Bool.or_false]
 simp only [wl,wc,hcond,a1M,if_false];refine aH (jx ?_);refine aH (jc hi ?_);rw [hk,a0y];by_cases hc:c.toNat=0
 ·simp only [hc,if_true,newRow,newObj,bind,Sem.bind,pure,cB]
  have:=h e;rw [hc] at this;have e0:∀ f:Nat->Value,(Array.range 0).map f=Array.replicate 0 z:=fun f=>by apply a4C <;> simp
  rw [e0];exact this
 ·simp only [hc,if_false];refine aH (eA hi OH ?_);simp only [newRow,newObj,bind,Sem.bind,pure,cB];rw [Am z _ hz];exact h e
theorem qX {T:TypeId}{bs k:Nat}{z:Value}{l c:Int}{Q:Value->au->Prop} (hs:bd P T=some (k,bs,some z)) (h0:0<=l) (h1:l<=c) (h2:c<=1099511627776) (hb:bs<=128)
  (h:∀ e (cs:Array Value),cs.size=c.toNat*k->Q (.slice (some ⟨H.size,0,none⟩) l.toNat c.toNat) (H.push (.cells cs e))):cB P (Instr.makeSlice T (.int .i64 l) (.int .i64 c)) Q H:=by
 obtain ⟨e,i,hu,hi,hk,RX,OH⟩:=fK hs;unfold Instr.makeSlice;refine aH (bF hu ?_);refine aH ?_;show cB P (asInt (.int .i64 l)) _ H;simp only [asInt,asIntOf,bind,Sem.bind,pure,cB];refine aH (dC hi ?_);have wl:IntKind.i64.wrap l=l:=ao (by omega) (by omega);have wc:IntKind.i64.wrap c=c:=ao (by omega) (by omega);have hbc:(bs:Int)*c<=128*1099511627776:=by
  refine Int.le_trans (a32 (by omega:(bs:Int)<=128) (by omega)) (by omega)
 have hcond:(decide (c<0) || decide ((i.bytes:Int)*c > 2 ^ 48) || decide (l<0) || decide (l > c))=false:=by
  rw [RX];have e1:¬ c<0:=by omega
  have e2:¬ (bs:Int)*c > 2 ^ 48:=by
   have:(2:Int) ^ 48=281474976710656:=by decide
   omega
  have e3:¬ l<0:=by omega
  have e4:¬ l > c:=by omega
  simp only [e1,e2,e3,e4,decide_false,Bool.or_false]
 simp only [wl,wc,hcond,a1M,if_false];refine aH (jx ?_);refine aH (jc hi ?_);rw [hk];by_cases hc:c.toNat*k=0
 ·simp only [hc,if_true,newRow,newObj,bind,Sem.bind,pure,cB];exact h e _ (by simp [hc])
 ·simp only [hc,if_false];refine aH (eA hi OH ?_);simp only [newRow,newObj,bind,Sem.bind,pure,cB];exact h e _ (by simp)
end evS
def bZ (k:Nat) (H:au) (a:Option Addr) (l c:Nat) (xs:List Value) (F:aS):Prop :=
 xs.length=l*k∧l<=c∧((a=none∧c=0∧F=[])∨∃ b cs,a=some ⟨b,0,none⟩∧F=[b]∧bI H b cs∧cs.size=c*k∧cs.toList.take (l*k)=xs)
def Rd (k:Nat) (H:au) (a:Option Addr) (l:Nat) (ys:List Value):Prop :=
 ys.length=l*k∧(a=none->l=0)∧∀ p,a=some p->∀ i,i<l*k->aq H (p.add i)=ys[i]?
theorem bZ.nil (k:Nat) (H:au):bZ k H none 0 0 [] []:=⟨by simp,a0U _,.inl ⟨rfl,rfl,rfl⟩⟩
theorem bZ.len {k:Nat}{H:au}{a:Option Addr}{l c:Nat}{xs:List Value}{F:aS} (h:bZ k H a l c xs F):xs.length=l*k:=h.1
theorem bZ.lt {k:Nat}{H:au}{a:Option Addr}{l c:Nat}{xs:List Value}{F:aS} (h:bZ k H a l c xs F):∀ b∈F,b<H.size:=by
 rcases h.2.2 with ⟨_,_,rfl⟩ | ⟨b,cs,_,rfl,hb,_⟩
 ·simp
 ·intro b' k9;simp at k9;subst k9;exact hb.lt
theorem bZ.keep {k:Nat}{H H':au}{a:Option Addr}{l c:Nat}{xs:List Value}{F:aS} (h:bZ k H a l c xs F) (he:∀ b∈F,H'[b]?=H[b]?):bZ k H' a l c xs F:=by
 refine ⟨h.1,h.2.1,h.2.2.imp id ?_⟩;rintro ⟨b,cs,h1,rfl,h3,h4⟩;exact ⟨b,cs,h1,rfl,h3.of_eq (he b (by simp)),h4⟩
theorem bZ.fr {k:Nat}{H H':au}{a:Option Addr}{l c:Nat}{xs:List Value}{F G:aS} (h:bZ k H a l c xs F) (hf:Fr G H H') (hd:∀ b∈F,b∉G):bZ k H' a l c xs F :=
 h.keep fun b hb=>hf.2 b (h.lt b hb) (hd b hb)
theorem bZ.rd {k:Nat}{H:au}{a:Option Addr}{l c:Nat}{xs:List Value}{F:aS} (h:bZ k H a l c xs F):Rd k H a l xs:=by
 refine ⟨h.1,fun ha=>?_,fun p hp i hi=>?_⟩
 ·rcases h.2.2 with ⟨_,hc,_⟩ | ⟨b,cs,h1,_⟩
  ·have:=h.2.1;omega
  ·rw [h1] at ha;cases ha
 ·rcases h.2.2 with ⟨h0,_,_⟩ | ⟨b,cs,h1,_,h3,h4,h5⟩
  ·rw [h0] at hp;cases hp
  ·rw [h1] at hp;cases hp;rw [aB,a0K,h3.cell,←h5,a27 hi];simp
theorem Rd.fr {k:Nat}{H H':au}{a:Option Addr}{l:Nat}{ys:List Value} (h:Rd k H a l ys) (he:∀ p,a=some p->H'[p.block]?=H[p.block]?):Rd k H' a l ys:=by
 refine ⟨h.1,h.2.1,fun p hp i hi=>?_⟩;rw [←h.2.2 p hp i hi];unfold aq
 have:(p.add i).block=p.block:=by unfold Addr.add;split <;> rfl
 rw [this,he p hp]
section
variable {P:Program}
theorem gI {a:Addr}:∀ (ys:List Value) (i:Nat) (acc:Array Value){Q:Array Value->au->Prop}{H:au},
  (∀ j,j<ys.length->aq H (a.add (i+j))=ys[j]?)->Q (acc++ys.toArray) H->cB P (loadCellsFrom a i ys.length acc) Q H
 | [],i,acc,Q,H,_,h=>by simpa [loadCellsFrom,cB,pure] using h
 | y :: r,i,acc,Q,H,hc,h=>by
  refine ⟨y,by simpa using hc 0 (by simp),?_⟩;refine gI r (i+1) (acc.push y) (fun j hj=>?_) ?_
  ·have:=hc (j+1) (by simpa using hj);rw [show i+1+j=i+(j+1) by omega];simpa using this
  ·simpa using h
theorem dR {k:Nat}{H:au}{a:Option Addr}{l n c:Nat}{ys:List Value}{Q:Array Value->au->Prop} (hr:Rd k H a l ys) (hn:n<=l) (h:Q (ys.take (n*k)).toArray H) :
  cB P (Builtin.firstCells k n (.slice a l c)) Q H:=by
 cases a with
 | none =>
  have hl:=hr.2.1 rfl;subst hl
  have:ys=[]:=a1o (by rw [hr.1];simp);subst this;simpa [Builtin.firstCells,cB,pure] using h
 | some p =>
  have HS:n*k<=ys.length:=by rw [hr.1];exact a3a k hn
  have hlen:(ys.take (n*k)).length=n*k:=by simp [HS]
  show cB P (loadCellsFrom p 0 (n*k) #[]) Q H;rw [←hlen];refine gI _ 0 #[] (fun j hj=>?_) (by simpa using h);rw [hlen] at hj;rw [a0K,hr.2.2 p rfl j (by rw [←hr.1];omega),a27 hj]
def gq (cs:Array Value) (o:Nat) (vs:List Value):Array Value:=(cs.toList.take o++vs++cs.toList.drop (o+vs.length)).toArray
theorem vk (cs:Array Value) (o:Nat) (v:Value) (vs:List Value) (h:o<cs.size):gq (cs.setIfInBounds o v) (o+1) vs=gq cs o (v :: vs):=by
 unfold gq
 congr 1
 rw [Array.toList_setIfInBounds];have h1:(cs.toList.set o v).take (o+1)=cs.toList.take o++[v]:=by
  rw [a3T (by simpa using h),List.take_set_of_le (a0U _)];simp
 have h2:(cs.toList.set o v).drop (o+1+vs.length)=cs.toList.drop (o+(v :: vs).length):=by
  rw [List.drop_set_of_lt (by omega)]
  congr 1
  simp;omega
 rw [h1,h2];simp
theorem fF {b:Nat}{t:TypeId}:∀ (vs:List Value) (o i:Nat) (cs:Array Value){Q:Unit->au->Prop}{H:au},(∀ v∈vs,dJ v=true)->H[b]?=some (.cells cs t (0,0))->o+i+vs.length<=cs.size ->
  (∀ H',H'[b]?=some (.cells (gq cs (o+i) vs) t (0,0))->H'.size=H.size->(∀ b',b'≠b->H'[b']?=H[b']?)->Q () H')->cB P (storeCells ⟨b,o,none⟩ vs i) Q H
 | [],o,i,cs,Q,H,_,hb,_,h=>by
  refine h H ?_ rfl fun _ _=>rfl;rw [hb];simp [gq]
 | v :: r,o,i,cs,Q,H,h1,hb,hlen,h=>by
  have hB:bI H b cs:=⟨t,hb⟩;simp only [a1b] at hlen;refine ⟨h1 v (by simp),?_,?_⟩
  ·rw [aB];exact hB.wr (by omega)
  ·rw [aB];have k9:(aQ H ⟨b,o+i,none⟩ v)[b]?=some (.cells (cs.setIfInBounds (o+i) v) t (0,0)):=by
    simp [aQ,a2a,hb]
   refine fF r o (i+1) _ (fun u hu=>h1 u (by simp [hu])) k9 (by simp;omega) fun H' g1 g2 g3=>h H' ?_ (by rw [g2,ck]) fun b' k9=>?_
   ·rw [g1,show o+(i+1)=o+i+1 by omega,vk _ _ _ _ (by omega)]
   ·rw [g3 b' k9,cP k9]
theorem ot (need:Nat):∀ (r c:Nat),c<=need->Builtin.growBy need r c<=need+(need+768) / 4
 | 0,c,h=>by simp only [Builtin.growBy];omega
 | r+1,c,h=>by
  simp only [Builtin.growBy];split
  ·omega
  ·by_cases h2:c+(c+768) / 4<=need
   ·exact ot need r _ h2
   ·cases r with
    | zero=>simp only [Builtin.growBy];omega
    | succ r=>simp only [Builtin.growBy];rw [a0b (by omega)];omega
theorem iM {need c:Nat} (h:c<need):Builtin.nextslicecap need c<=2*need+512:=by
 unfold Builtin.nextslicecap;split
 ·omega
 ·split
  ·omega
  ·have:=ot need 4 c (by omega);omega
theorem oA {need c:Nat} (h:c<need):Builtin.nextslicecap need c<=need+need / 4+1000:=by
 unfold Builtin.nextslicecap;split
 ·omega
 ·split
  ·omega
  ·have:=ot need 4 c (by omega);omega
def oI (P:Program) (t:TypeId):Bool:=match P.underlying t with | some (.slice _)=>true | _=>false
theorem ir {T T' T0 k bs:Nat}{z:Value}{H:au}{a a2:Option Addr}{l c l2 c2:Nat}{xs ys:List Value}{F:aS}{Q:Value->au->Prop} (hs:bd P T=some (k,bs,some z)) (hz:z.cells.size=k) (hT:oI P T'=true)
  (ho:bZ k H a l c xs F) (hr:Rd k H a2 l2 ys) (Js:∀ v∈ys,dJ v=true) (ZX:∀ c,c<l+l2->Builtin.nextslicecap (l+l2) c*bs<=281474976710656) (OI:bs≠0)
  (h:∀ a' c' F' H',bZ k H' a' (l+l2) c' (xs++ys) F'->Up F H F' H'->(∀ b∈F',b<H'.size)->Q (.slice a' (l+l2) c') H') :
  cB P (Builtin.append_ #[T,T'] T0 #[.slice a l c,.slice a2 l2 c2]) Q H:=by
 obtain ⟨e,i,hu,hi,hk,hb,OH⟩:=fK hs;obtain ⟨d,hd,hd'⟩:∃ d,P.underlying T'=some (.slice d)∧True:=by
  unfold oI at hT;split at hT
  ·rename_i d hd;exact ⟨d,hd,trivial⟩
  ·cases hT
 show cB P (do
  let .slice elem ← underlying T | stuck "append: slice type expected"
  _) Q H
 refine aH (bF hu ?_);refine aH (jc hi ?_);rw [hk];refine aH (aH (bF hd ?_));simp only [pure,List.getElem_toArray,List.getElem_cons_succ,a3w];refine aH (fg ?_);simp only [a1M,if_false,a0C,if_true];refine aH (show cB P (Builtin.lenOf (.slice a2 l2 c2)) _ H from ?_);refine fg ?_;by_cases Ja:l+l2<=c
 ·simp only [Ja,if_true];refine aH (dR hr (a0U _) ?_);have UQ:ys.take (l2*k)=ys:=a0Y (by rw [hr.1];exact a0U _);rw [UQ];rcases ho.2.2 with ⟨rfl,Jm,rfl⟩ | ⟨b,cs,rfl,rfl,⟨t,hB⟩,zw,lj⟩
  ·have SN:l=0:=by omega
   have ZY:l2=0:=by omega
   subst SN;subst ZY;have JQ:ys=[]:=a1o (by rw [hr.1];simp);have Ua:xs=[]:=a1o (by rw [ho.1];simp);subst JQ;subst Ua;subst Jm;exact h none 0 [] H (bZ.nil k H) (Up.refl _ _) (by simp)
  ·dsimp only;rw [aB,a0K];refine aH ?_;have OV:l*k+0+ys.length<=cs.size:=by rw [hr.1,zw,a4u,←a3h];exact a3a k Ja
   refine fF ys (l*k) 0 cs Js hB OV fun H' g1 g2 g3=>?_;refine h _ _ [b] H' ⟨by rw [a1h,ho.1,hr.1,a3h],Ja,.inr ⟨b,_,rfl,rfl,⟨t,g1⟩,?_,?_⟩⟩ ⟨⟨by omega,fun b' _ hn=>g3 b' (by simpa using hn)⟩,fun b' k9=>.inl k9⟩ ?_
   ·simp only [gq,a1D,a1h,a1q,a3U,a3A];omega
   ·simp only [gq,a4u];have e1:cs.toList.take (l*k)++ys=xs++ys:=by rw [lj]
    rw [e1,a2J (by rw [a1h,ho.1,hr.1,a3h];exact a0U _)];exact a0Y (by rw [a1h,ho.1,hr.1,a3h];exact a0U _)
   ·intro b' k9;simp at k9;subst k9;exact (a1j.1 g1).1
 ·simp only [Ja,if_false];have SO:¬ (((l+l2:Nat):Int) > IntKind.i64.max∧(False∨i.bytes=0)):=by
   rintro ⟨_,h | h⟩
   ·exact h
   ·rw [hb] at h;exact OI h
  refine aH (dC hi ?_);simp only [SO,if_false];refine aH (dC hi ?_);have R9:¬ Builtin.nextslicecap (l+l2) c*i.bytes > 2 ^ 48:=by
   rw [hb]
   have:=ZX c (by omega);omega
  simp only [R9,if_false];refine aH ?_;simp only [choose,cB,Question.forced,a1M,if_false];intro t;have SQ:l+l2<=Question.cut (.appendCap (l+l2) c e) t:=by simp only [Question.cut];omega
  generalize Question.cut (.appendCap (l+l2) c e) t=cap' at SQ;refine aH (dC hi ?_);refine aH (jx ?_);refine aH (dR (ho.rd) (a0U _) ?_);refine aH (dR hr (a0U _) ?_);refine aH (eA hi OH ?_);have UR:xs.take (l*k)=xs:=a0Y (by rw [ho.1];exact a0U _);have UQ:ys.take (l2*k)=ys:=a0Y (by rw [hr.1];exact a0U _);rw [UR,UQ];simp only [newRow,newObj,bind,Sem.bind,pure,cB];refine h _ _ [H.size] _ ⟨by rw [a1h,ho.1,hr.1,a3h],SQ,.inr ⟨H.size,_,rfl,rfl,bI.new _ _ _,?_,?_⟩⟩ ⟨Fr.push _ _ _,fun b' k9=>?_⟩ ?_
  ·simp only [a3y,a1D,Builtin.zeroCells,Array.size_map,Array.size_range,hz];rw [ho.1,hr.1,←a3h,←a3h]
   congr 1
   omega
  ·simp only [Array.toList_append,a18];rw [←a18,a2J (by rw [a1h,ho.1,hr.1,a3h];exact a0U _)];exact a0Y (by rw [a1h,ho.1,hr.1,a3h];exact a0U _)
  ·simp at k9;exact .inr (by omega)
  ·intro b' k9;simp at k9;subst k9;simp
theorem dz {T T' T0 k bs:Nat}{z:Value}{H:au}{a a2:Option Addr}{l c l2 c2:Nat}{xs ys:List Value}{F:aS}{Q:Value->au->Prop} (hs:bd P T=some (k,bs,some z)) (hz:z.cells.size=k) (hT:oI P T'=true)
  (ho:bZ k H a l c xs F) (hr:Rd k H a2 l2 ys) (Js:∀ v∈ys,dJ v=true) (hl:l+l2<=274877906944) (RX:bs<=128) (OI:bs≠0)
  (h:∀ a' c' F' H',bZ k H' a' (l+l2) c' (xs++ys) F'->Up F H F' H'->(∀ b∈F',b<H'.size)->Q (.slice a' (l+l2) c') H') :
  cB P (Builtin.append_ #[T,T'] T0 #[.slice a l c,.slice a2 l2 c2]) Q H :=
 ir hs hz hT ho hr Js (fun c hc=>by
  have ZZ:l+l2<=274877906944:=hl
  have:=iM (need:=l+l2) (c:=c) hc;have h3:Builtin.nextslicecap (l+l2) c*bs<=(2*(l+l2)+512)*128:=a4d this RX;exact a0O h3 (a0O (a3a 128 (Nat.add_le_add_right (Nat.mul_le_mul_left 2 ZZ) 512)) (by decide))) OI h
theorem kT {T T' T0 k bs:Nat}{z:Value}{H:au}{a:Option Addr}{l c:Nat}{xs:List Value}{ys:Array Value}{e:TypeId}{F:aS}{Q:Value->au->Prop} (hs:bd P T=some (k,bs,some z)) (hz:z.cells.size=k) (hT:oI P T'=true)
  (ho:bZ k H a l c xs F) (hy:ys.size=k) (Js:∀ v∈ys.toList,dJ v=true) (ZX:∀ c,c<l+1->Builtin.nextslicecap (l+1) c*bs<=281474976710656) (OI:bs≠0)
  (h:∀ a' c' F' H',bZ k H' a' (l+1) c' (xs++ys.toList) F'->Up F H F' H'->(∀ b∈F',b<H'.size)->Q (.slice a' (l+1) c') H') :
  cB P (Builtin.append_ #[T,T'] T0 #[.slice a l c,.slice (some ⟨H.size,0,none⟩) 1 1]) Q (H.push (.cells ys e)):=by
 refine ir hs hz hT (ho.fr (Fr.push [] H _) (by simp)) (l2:=1) (ys:=ys.toList) ⟨by simp [hy],by simp,fun p hp i hi=>?_⟩ Js ZX OI fun a' c' F' H' h1 h2 h3=>h a' c' F' H' h1 ?_ h3
 ·cases hp;rw [aB,a0K,(bI.new H ys e).cell];simp
 ·exact ⟨⟨a0O (by simp) h2.1.1,fun b hb hn=>by rw [h2.1.2 b (by simp;omega) hn,(Fr.push F H (.cells ys e)).2 b hb hn]⟩,fun b hb=>(h2.2 b hb).imp id fun JR=>by simp at JR;omega⟩
theorem bK {T T' T0 k bs:Nat}{z:Value}{H:au}{a:Option Addr}{l c:Nat}{xs:List Value}{ys:Array Value}{e:TypeId}{F:aS}{Q:Value->au->Prop} (hs:bd P T=some (k,bs,some z)) (hz:z.cells.size=k) (hT:oI P T'=true)
  (ho:bZ k H a l c xs F) (hy:ys.size=k) (Js:∀ v∈ys.toList,dJ v=true) (hl:l<274877906944) (RX:bs<=128) (OI:bs≠0)
  (h:∀ a' c' F' H',bZ k H' a' (l+1) c' (xs++ys.toList) F'->Up F H F' H'->(∀ b∈F',b<H'.size)->Q (.slice a' (l+1) c') H') :
  cB P (Builtin.append_ #[T,T'] T0 #[.slice a l c,.slice (some ⟨H.size,0,none⟩) 1 1]) Q (H.push (.cells ys e)) :=
 kT hs hz hT ho hy Js (fun c hc=>by
  have ZZ:l+1<=274877906944:=hl
  have:=iM (need:=l+1) (c:=c) hc;have h3:Builtin.nextslicecap (l+1) c*bs<=(2*(l+1)+512)*128:=a4d this RX;exact a0O h3 (a0O (a3a 128 (Nat.add_le_add_right (Nat.mul_le_mul_left 2 ZZ) 512)) (by decide))) OI h
theorem zN {T T0 bs:Nat}{z:Value}{H:au}{b o n c:Nat}{cs:Array Value}{t:TypeId}{Q:Value->au->Prop} (hs:bd P T=some (1,bs,some z)) (hz:z.cells=#[z]) (hz1:dJ z=true)
  (hb:H[b]?=some (.cells cs t (0,0))) (ho:o+n<=cs.size)
  (h:∀ H',H'[b]?=some (.cells (gq cs o (List.replicate n z)) t (0,0))->H'.size=H.size->(∀ b',b'≠b->H'[b']?=H[b']?)->Q (.tuple #[]) H') :
  cB P (Builtin.clear_ #[T] T0 #[.slice (some ⟨b,o,none⟩) n c]) Q H:=by
 obtain ⟨e,i,hu,hi,hk,RX,OH⟩:=fK hs;cases n with
 | zero =>
  refine aH (bF hu ?_);refine h H ?_ rfl fun _ _=>rfl;rw [hb];simp [gq]
 | succ n =>
  refine aH (bF hu ?_);refine aH (eA hi OH ?_);refine aH ?_;have US:(Builtin.zeroCells z.cells (n+1)).toList=List.replicate (n+1) z:=by
   rw [hz,Builtin.zeroCells];apply a2V
   ·simp
   ·intro j h1 h2;simp [Nat.mod_one]
  rw [US];exact fF _ o 0 cs (fun v hv=>by rw [List.eq_of_mem_replicate hv];exact hz1) hb (by simp;omega) fun H' g1 g2 g3=>h H' (by simpa using g1) g2 g3
theorem Bm {T T' T0 bs:Nat}{z:Option Value}{H:au}{b o l c l2 c2:Nat}{a2:Option Addr}{ys:List Value}{cs:Array Value}{t:TypeId}{Q:Value->au->Prop} (hs:bd P T=some (1,bs,z))
  (hb:H[b]?=some (.cells cs t (0,0))) (ho:o+l<=cs.size) (hr:Rd 1 H a2 l2 ys) (Js:∀ v∈ys,dJ v=true) (HS:l2<=l)
  (h:∀ H',H'[b]?=some (.cells (gq cs o ys) t (0,0))->H'.size=H.size->(∀ b',b'≠b->H'[b']?=H[b']?)->Q (.int .i64 l2) H') :
  cB P (Builtin.copy_ #[T,T'] T0 #[.slice (some ⟨b,o,none⟩) l c,.slice a2 l2 c2]) Q H:=by
 obtain ⟨e,i,hu,hi,hk,RX,OH⟩:=fK hs;refine aH (bF hu ?_);refine aH (show cB P (Builtin.lenOf (.slice a2 l2 c2)) _ H from ?_);refine fg ?_;have hm:Nat.min l2 l=l2:=a4E HS;dsimp only;rw [hm];refine aH (jc hi ?_);rw [hk];refine aH (show cB P (Builtin.firstCells 1 l2 (.slice a2 l2 c2)) _ H from dR hr (a0U _) ?_);have UQ:ys.take (l2*1)=ys:=a0Y (by rw [hr.1];exact a0U _);rw [UQ];refine aH ?_;exact fF ys o 0 cs Js hb (by rw [hr.1];omega) fun H' g1 g2 g3=>h H' (by simpa using g1) g2 g3
end
theorem bh {α:Type}{x:α}{P:α->Prop}:(∃ q,some x=some q∧P q)↔P x :=
 ⟨fun ⟨_,e,h⟩=>by cases e;exact h,fun h=>⟨x,rfl,h⟩⟩
theorem aV {x:Option Addr}{y z:Nat}{P:Option Addr->Nat->Nat->Prop}:(∃(a:Option Addr) (l c:Nat),some (Value.slice x y z)=some (.slice a l c)∧P a l c)↔P x y z :=
 ⟨fun ⟨a,l,c,e,h⟩=>by cases e;exact h,fun h=>⟨x,y,z,rfl,h⟩⟩
theorem bx {κ:IntKind}{x:Int}{P:Int->Prop}:(∃ n:Int,some (Value.int κ x)=some (.int κ n)∧P n)↔P x :=
 ⟨fun ⟨n,e,h⟩=>by cases e;exact h,fun h=>⟨x,rfl,h⟩⟩
theorem bA {x:Option Addr}{P:Option Addr->Prop}:(∃ a:Option Addr,some (Value.pointer x)=some (.pointer a)∧P a)↔P x :=
 ⟨fun ⟨n,e,h⟩=>by cases e;exact h,fun h=>⟨x,rfl,h⟩⟩
theorem bi {x:Bool}{P:Bool->Prop}:(∃ a:Bool,some (Value.bool x)=some (.bool a)∧P a)↔P x :=
 ⟨fun ⟨n,e,h⟩=>by cases e;exact h,fun h=>⟨x,rfl,h⟩⟩
theorem bB {x:ByteArray}{P:ByteArray->Prop}:(∃ a:ByteArray,some (Value.string x)=some (.string a)∧P a)↔P x :=
 ⟨fun ⟨n,e,h⟩=>by cases e;exact h,fun h=>⟨x,rfl,h⟩⟩
theorem bt {x:Option Nat}{P:Option Nat->Prop}:(∃ a:Option Nat,some (Value.map x)=some (.map a)∧P a)↔P x :=
 ⟨fun ⟨n,e,h⟩=>by cases e;exact h,fun h=>⟨x,rfl,h⟩⟩
theorem aW {x:Option Addr}{y z:Nat}{P:Option Addr->Nat->Nat->Prop}:(∃(a:Option Addr) (l c:Nat),Value.slice x y z=.slice a l c∧P a l c)↔P x y z :=
 ⟨fun ⟨a,l,c,e,h⟩=>by cases e;exact h,fun h=>⟨x,y,z,rfl,h⟩⟩
theorem bv {κ:IntKind}{x:Int}{P:Int->Prop}:(∃ n:Int,Value.int κ x=.int κ n∧P n)↔P x :=
 ⟨fun ⟨n,e,h⟩=>by cases e;exact h,fun h=>⟨x,rfl,h⟩⟩
theorem bu {x:Option Addr}{P:Option Addr->Prop}:(∃ a:Option Addr,Value.pointer x=.pointer a∧P a)↔P x :=
 ⟨fun ⟨n,e,h⟩=>by cases e;exact h,fun h=>⟨x,rfl,h⟩⟩
theorem bg {x:Bool}{P:Bool->Prop}:(∃ a:Bool,Value.bool x=.bool a∧P a)↔P x :=
 ⟨fun ⟨n,e,h⟩=>by cases e;exact h,fun h=>⟨x,rfl,h⟩⟩
theorem bz {x:ByteArray}{P:ByteArray->Prop}:(∃ a:ByteArray,Value.string x=.string a∧P a)↔P x :=
 ⟨fun ⟨n,e,h⟩=>by cases e;exact h,fun h=>⟨x,rfl,h⟩⟩
theorem aM {H:au}{c:Array Value}{e:TypeId}{fr:Nat × Nat}{i:Nat}{v:Value}:aQ (H.push (.cells c e fr)) ⟨H.size,i,none⟩ v=H.push (.cells (c.setIfInBounds i v) e fr):=by
 unfold aQ;apply a4C
 ·simp
 ·intro j h1 h2;simp only [Array.size_modify,a1e] at h1;rw [Array.getElem_modify];split
  ·rename_i h;subst h;simp
  ·rename_i h;have h3:j≠H.size:=fun e=>h e.symm;rw [Array.getElem_push_lt (by omega),Array.getElem_push_lt (by omega)]
theorem aG {H:au}{c:Array Value}{e:TypeId}{fr:Nat × Nat}{i:Nat}:aq (H.push (.cells c e fr)) ⟨H.size,i,none⟩=c[i]?:=by simp [aq]
theorem aY {H:au}{c:Array Value}{e:TypeId}{i:Nat}:Wr (H.push (.cells c e)) ⟨H.size,i,none⟩↔i<c.size:=by
 constructor
 ·rintro ⟨⟨v,hv⟩,_⟩;rw [aG] at hv;exact (a1j.1 hv).1
 ·intro h;exact (bI.new H c e).wr h
theorem eD {H:au}{o:Obj}{a:Addr} (h:a.block<H.size):aq (H.push o) a=aq H a:=by
 unfold aq;rw [a2D,a0a (by omega)]
theorem Fr.step {F:aS}{H H1:au}{b o:Nat}{v:Value} (h:Fr F H H1) (hb:b∈F):Fr F H (aQ H1 ⟨b,o,none⟩ v):=h.trans (Fr.set hb)
theorem Fr.more {F:aS}{H H1:au}{o:Obj} (h:Fr F H H1):Fr F H (H1.push o):=h.trans (Fr.push F H1 o)
def dI (n:Nat) (f:Int->Int):List Value:=(List.range n).map fun i:Nat=>.int .i64 (f i)
def fc (H:au) (b n:Nat) (f:Int->Int):Prop:=bI H b (dI n f).toArray
theorem sN {n:Nat}{f:Int->Int}{i:Nat} (h:i<n):(dI n f)[i]?=some (.int .i64 (f i)):=by simp [dI,h]
theorem wi {n:Nat}{f g:Int->Int} (h:∀ i:Int,0<=i->i<n->f i=g i):dI n f=dI n g:=by
 unfold dI;apply a3B;intro i hi;simp only [a4e] at hi;rw [h i (by omega) (by omega)]
theorem fc.congr {H:au}{b n:Nat}{f g:Int->Int} (h:fc H b n f) (he:∀ i:Int,0<=i->i<n->f i=g i):fc H b n g:=by
 unfold fc;rw [←wi he];exact h
theorem fc.lt {H:au}{b n:Nat}{f:Int->Int} (h:fc H b n f):b<H.size:=bI.lt h
theorem fc.cell {H:au}{b n:Nat}{f:Int->Int} (h:fc H b n f){i:Int} (h0:0<=i) (h1:i<n):aq H ⟨b,i.toNat,none⟩=some (.int .i64 (f i)):=by
 rw [bI.cell h]
 have:=sN (f:=f) (n:=n) (i:=i.toNat) (by omega);rw [a2E h0] at this;simpa using this
theorem fc.wr {H:au}{b n:Nat}{f:Int->Int} (h:fc H b n f){i:Int} (h0:0<=i) (h1:i<n):Wr H ⟨b,i.toNat,none⟩ :=
 bI.wr h (by simp [dI];omega)
def upd (f:Int->Int) (i v:Int):Int->Int:=fun j=>if j=i then v else f j
theorem zJ {n:Nat}{f:Int->Int}{i v:Int} (h0:0<=i):(dI n f).set i.toNat (.int .i64 v)=dI n (upd f i v):=by
 apply a2V
 ·simp [dI]
 ·intro j h1 h2;simp only [dI,List.getElem_set,a3e,a3F,upd];by_cases h:i.toNat=j
  ·rw [a0b h,a0b (by omega)]
  ·rw [a0a h,a0a (by omega)]
theorem fc.set {H:au}{b n:Nat}{f:Int->Int} (h:fc H b n f){i:Int} (h0:0<=i) (v:Int):fc (aQ H ⟨b,i.toNat,none⟩ (.int .i64 v)) b n (upd f i v):=by
 have:=bI.set h i.toNat (.int .i64 v);unfold fc;rw [←zJ h0];simpa using this
theorem fc.fr {F:aS}{H H':au}{b n:Nat}{f:Int->Int} (h:fc H b n f) (hf:Fr F H H') (hb:b∉F):fc H' b n f:=bI.fr h hf hb
theorem fc.of_eq {H H':au}{b n:Nat}{f:Int->Int} (h:fc H b n f) (he:H'[b]?=H[b]?):fc H' b n f:=bI.of_eq h he
theorem fc.set_ne {H:au}{b n:Nat}{f:Int->Int} (h:fc H b n f){a:Addr} (hb:b≠a.block) (v:Value):fc (aQ H a v) b n f:=bI.set_ne h hb v
theorem fc.push {H:au}{b n:Nat}{f:Int->Int} (h:fc H b n f) (o:Obj):fc (H.push o) b n f:=bI.push h o
theorem fc.new (H:au) (n:Nat) (e:TypeId):fc (H.push (.cells (Array.replicate n (.int .i64 0)) e)) H.size n fun _=>0:=by
 have:Array.replicate n (Value.int .i64 0)=(dI n fun _=>0).toArray:=by
  apply a4C
  ·simp [dI]
  ·intro i h1 h2;simp [dI]
 rw [this];exact bI.new _ _ _
theorem fc.own {H:au}{b n:Nat}{f:Int->Int} (h:fc H b n f):bZ 1 H (some ⟨b,0,none⟩) n n (dI n f) [b] :=
 ⟨by simp [dI],a0U _,.inr ⟨b,_,rfl,rfl,h,by simp [dI],a0Y (by simp [dI])⟩⟩
theorem zA {n:Nat}{f:Int->Int}:∀ v∈dI n f,dJ v=true:=by
 intro v hv;simp only [dI,a1n] at hv;obtain ⟨i,_,rfl⟩:=hv;rfl
theorem fc.rd {H:au}{b n:Nat}{f:Int->Int} (h:fc H b n f){lo l:Nat} (hl:lo+l<=n):Rd 1 H (some ⟨b,lo,none⟩) l (dI l fun i=>f (lo+i)):=by
 refine ⟨by simp [dI],by simp,fun p hp i hi=>?_⟩;cases hp
 have:=h.cell (i:=((lo+i:Nat):Int)) (by omega) (by omega);rw [aB];rw [a0j] at this;rw [this,sN (by omega)]
 push_cast
 rfl
theorem oV {n o m:Nat}{f g:Int->Int} (h:o+m<=n):gq (dI n f).toArray o (dI m g)=(dI n fun i=>if (o:Int)<=i∧i<o+m then g (i-o) else f i).toArray:=by
 unfold gq
 congr 1
 apply a2V
 ·simp [dI];omega
 ·intro j h1 h2;simp only [dI,a1p,a4n] at h2;simp only [dI,List.getElem_append,a3e,a3F,a3M,List.getElem_drop,a1h,a1q,a1p,a4n];by_cases ha:j<o
  ·have h3:j<min o n:=by omega
   rw [dif_pos (by omega),dif_pos h3,a0a (by omega)]
  ·by_cases hb:j<o+m
   ·rw [dif_pos (by omega),dif_neg (by omega),a0b (by omega)]
    congr 2
    omega
   ·rw [dif_neg (by omega),a0a (by omega)]
    congr 2
    omega
section
variable {P:Program}
theorem qR {T T0 bs:Nat}{H:au}{b n:Nat}{f:Int->Int}{lo l c:Nat}{Q:Value->au->Prop} (hs:bd P T=some (1,bs,some (.int .i64 0))) (hm:fc H b n f) (hl:lo+l<=n)
  (h:∀ H',fc H' b n (fun i=>if (lo:Int)<=i∧i<lo+l then 0 else f i)->H'.size=H.size->(∀ b',b'≠b->H'[b']?=H[b']?)->Q (.tuple #[]) H') :
  cB P (Builtin.clear_ #[T] T0 #[.slice (some ⟨b,lo,none⟩) l c]) Q H:=by
 obtain ⟨t,hb⟩:=hm;have hr:List.replicate l (Value.int .i64 0)=dI l fun _=>0:=by
  apply a2V
  ·simp [dI]
  ·intro i h1 h2;simp [dI]
 refine zN hs rfl rfl hb (by simpa [dI] using hl) fun H' h1 h2 h3=>h H' ?_ h2 h3;rw [hr,oV hl] at h1;exact ⟨t,h1⟩
theorem pO {b cap:Nat}{lo:Int} (h:lo.toNat<cap):kN (some ⟨b,0,none⟩) cap lo 1=some ⟨b,lo.toNat,none⟩:=by
 unfold kN;rw [a0a (by omega)];simp
theorem nK {T T0 bs:Nat}{H:au}{b n:Nat}{f:Int->Int}{lo:Int}{l c:Nat}{Q:Value->au->Prop} (hs:bd P T=some (1,bs,some (.int .i64 0))) (hm:fc H b n f) (h0:0<=lo) (hl:lo.toNat+l<=n)
  (h:∀ H',fc H' b n (fun i=>if lo<=i∧i<lo+l then 0 else f i)->H'.size=H.size->(∀ b',b'≠b->H'[b']?=H[b']?)->Q (.tuple #[]) H') :
  cB P (Builtin.clear_ #[T] T0 #[.slice (kN (some ⟨b,0,none⟩) n lo 1) l c]) Q H:=by
 by_cases hn:n=lo.toNat
 ·have SN:l=0:=by omega
  subst SN;unfold kN;rw [a0b hn];refine qR hs hm (lo:=0) (by omega) fun H' h1 h2 h3=>h H' (h1.congr fun i _ _=>?_) h2 h3;rw [a0a (by omega),a0a (by omega)]
 ·rw [pO (by omega)];refine qR hs hm hl fun H' h1 h2 h3=>h H' (h1.congr fun i _ _=>?_) h2 h3;rw [a2E h0]
theorem As {T T' T0 bs:Nat}{z:Option Value}{H:au}{b b2 n n2:Nat}{f g:Int->Int}{lo l c lo2 l2 c2:Nat}{Q:Value->au->Prop} (hs:bd P T=some (1,bs,z)) (hm:fc H b n f) (Rx:fc H b2 n2 g) (hl:lo+l<=n) (K2:lo2+l2<=n2) (HS:l2<=l)
  (h:∀ H',fc H' b n (fun i=>if (lo:Int)<=i∧i<lo+l2 then g (i-lo+lo2) else f i)->H'.size=H.size->(∀ b',b'≠b->H'[b']?=H[b']?)->Q (.int .i64 l2) H') :
  cB P (Builtin.copy_ #[T,T'] T0 #[.slice (some ⟨b,lo,none⟩) l c,.slice (some ⟨b2,lo2,none⟩) l2 c2]) Q H:=by
 obtain ⟨t,hb⟩:=hm;refine Bm hs hb (by simpa [dI] using hl) (Rx.rd K2) zA HS fun H' h1 h2 h3=>h H' ?_ h2 h3;rw [oV (by omega)] at h1;refine fc.congr ⟨t,h1⟩ fun i _ _=>?_;split
 ·congr 1;omega
 ·rfl
theorem wg {T T' T0 bs:Nat}{z:Option Value}{H:au}{b n:Nat}{f:Int->Int}{lo lo2:Int}{l c l2 c2:Nat}{Q:Value->au->Prop} (hs:bd P T=some (1,bs,z)) (hm:fc H b n f) (h0:0<=lo) (h1:lo<n) (hl:lo.toNat+l<=n) (h2:0<=lo2) (h3:lo2<n) (K2:lo2.toNat+l2<=n) (HS:l2<=l)
  (h:∀ H',fc H' b n (fun i=>if lo<=i∧i<lo+l2 then f (i-lo+lo2) else f i)->H'.size=H.size->(∀ b',b'≠b->H'[b']?=H[b']?)->Q (.int .i64 l2) H') :
  cB P (Builtin.copy_ #[T,T'] T0 #[.slice (kN (some ⟨b,0,none⟩) n lo 1) l c,.slice (kN (some ⟨b,0,none⟩) n lo2 1) l2 c2]) Q H:=by
 rw [pO (by omega),pO (by omega)];refine As hs hm hm hl K2 HS fun H' g1 g2 g3=>h H' (g1.congr fun i _ _=>?_) g2 g3;rw [a2E h0,a2E h2]
end
theorem Up.fresh {F F':aS}{H H2 H3:au} (hf:Fr [] H H2) (hu:Up F H2 F' H3) (hF:∀ b∈F,H.size<=b):Fr [] H H3∧∀ b∈F',H.size<=b:=by
 refine ⟨⟨a0O hf.1 hu.1.1,fun b hb _=>?_⟩,fun b hb=>?_⟩
 ·rw [hu.1.2 b (a0X hb hf.1) (fun hm=>absurd (hF b hm) (by omega)),hf.2 b hb (by simp)]
 ·rcases hu.2 b hb with h | h
  ·exact hF b h
  ·exact a0O hf.1 h
def az (l:List Int):List Value:=l.map (.int .i64)
theorem fO {l:List Int}:∀ v∈az l,dJ v=true:=by
 intro v hv;simp only [az,a1n] at hv;obtain ⟨i,_,rfl⟩:=hv;rfl
theorem bR (l m:List Int):az (l++m)=az l++az m:=by simp [az]
theorem Rd.int {H:au}{a:Option Addr}{l:Nat}{ys:List Int} (h:Rd 1 H a l (az ys)){i:Int} (h0:0<=i) (h1:i<l):∃ p,a=some p∧aq H (p.add i.toNat)=some (.int .i64 (ys.getD i.toNat 0))∧i.toNat<ys.length:=by
 have hl:=h.1;simp only [az,a1p] at hl;cases a with
 | none=>have:=h.2.1 rfl;omega
 | some p =>
  refine ⟨p,rfl,?_,by omega⟩;rw [h.2.2 p rfl i.toNat (by omega)];have hi:i.toNat<ys.length:=by omega
  simp [az,hi]
theorem Rd.len {k:Nat}{H:au}{a:Option Addr}{l:Nat}{ys:List Value} (h:Rd k H a l ys):ys.length=l*k:=h.1
theorem Rd.fr' {F:aS}{k:Nat}{H H':au}{a:Option Addr}{l:Nat}{ys:List Value} (h:Rd k H a l ys) (hf:Fr F H H') (hd:∀ p,a=some p->p.block∉F):Rd k H' a l ys:=by
 refine ⟨h.1,h.2.1,fun p hp i hi=>?_⟩;have h1:=h.2.2 p hp i hi;have hb:(p.add i).block=p.block:=by unfold Addr.add;split <;> rfl
 have an:p.block<H.size:=by
  have h2:i<ys.length:=by rw [h.1];exact hi
  rw [a0Q h2] at h1;unfold aq at h1;rw [hb] at h1;rcases a2t p.block H.size with h3 | h3
  ·exact h3
  ·simp only [a2u h3] at h1;cases h1
 rw [←h1];unfold aq;rw [hb,hf.2 _ an (hd p hp)]
theorem bZ.newMem (H:au) (c:Nat) (e:TypeId):bZ 1 (H.push (.cells (Array.replicate c (.int .i64 0)) e)) (some ⟨H.size,0,none⟩) 0 c [] [H.size] :=
 ⟨by simp,a07 _,.inr ⟨H.size,_,rfl,rfl,bI.new _ _ _,by simp,by simp⟩⟩
def bU (F G:aS):Prop:=∀ b∈F,b∉G
theorem bU.symm {F G:aS} (h:bU F G):bU G F:=fun b hb hf=>h b hf hb
theorem bU.nil_left (F:aS):bU [] F:=fun _ h=>by cases h
theorem bU.nil_right (F:aS):bU F []:=fun _ _ h=>by cases h
theorem bU.mono {F G F' G':aS} (h:bU F G) (h1:∀ b∈F',b∈F) (h2:∀ b∈G',b∈G):bU F' G':=fun b hb hg=>h b (h1 b hb) (h2 b hg)
abbrev wX (α:Type):=au->List Value->α->aS->Prop
def LF {α:Type} (R:wX α):Prop:=∀ (H H':au) (ys:List Value) (x:α) (F:aS),R H ys x F->(∀ b∈F,H'[b]?=H[b]?)->R H' ys x F
def Mn {α:Type} (R:wX α):Prop:=∀ (H:au) (ys:List Value) (x:α) (F:aS),R H ys x F->∀ b∈F,b<H.size
inductive SRep {α:Type} (n:Nat) (R:wX α) (H:au):List Value->List α->aS->Prop
 | nil:SRep n R H [] [] []
 | cons {ys xs:List Value}{x:α}{l:List α}{F G:aS}:R H ys x F->ys.length=n->SRep n R H xs l G->bU F G->SRep n R H (ys++xs) (x :: l) (F++G)
section
variable {α:Type}{n:Nat}{R:wX α}{H H':au}
theorem SRep.length {xs:List Value}{l:List α}{F:aS} (h:SRep n R H xs l F):xs.length=l.length*n:=by
 induction h with
 | nil=>simp
 | cons h1 h2 _ _ ih=>simp only [a1h,a1b,h2,ih,a3h,Nat.one_mul];omega
theorem SRep.keep (hR:LF R){xs:List Value}{l:List α}{F:aS} (h:SRep n R H xs l F) (he:∀ b∈F,H'[b]?=H[b]?):SRep n R H' xs l F:=by
 induction h with
 | nil=>exact .nil
 | cons h1 h2 _ h4 ih=>exact .cons (hR _ _ _ _ _ h1 fun b hb=>he b (by simp [hb])) h2 (ih fun b hb=>he b (by simp [hb])) h4
theorem SRep.lt (hR:Mn R){xs:List Value}{l:List α}{F:aS} (h:SRep n R H xs l F):∀ b∈F,b<H.size:=by
 induction h with
 | nil=>simp
 | cons h1 h2 _ h4 ih =>
  intro b hb;rcases a0T.1 hb with hb | hb
  ·exact hR _ _ _ _ h1 b hb
  ·exact ih b hb
theorem SRep.append {xs ys:List Value}{l m:List α}{F G:aS} (h:SRep n R H xs l F) (h':SRep n R H ys m G) (hd:bU F G):SRep n R H (xs++ys) (l++m) (F++G):=by
 induction h with
 | nil=>exact h'
 | @cons zs xs x l F1 F2 h1 h2 h3 h4 ih =>
  rw [a18,a18,a3k];refine .cons h1 h2 (ih (hd.mono (fun b hb=>by simp [hb]) fun _ h=>h)) fun b hb hg=>?_;rcases a0T.1 hg with hg | hg
  ·exact h4 b hb hg
  ·exact hd b (by simp [hb]) hg
theorem SRep.one {ys:List Value}{x:α}{F:aS} (h:R H ys x F) (hn:ys.length=n):SRep n R H ys [x] F:=by
 have:=SRep.cons h hn SRep.nil (bU.nil_right F);simpa using this
theorem SRep.split {xs:List Value}{l:List α}{F:aS} (h:SRep n R H xs l F){i:Nat} (hi:i<l.length) :
  ∃ x1 ys x2 F1 G F2,xs=x1++(ys++x2)∧F=F1++(G++F2)∧x1.length=i*n∧ys.length=n∧SRep n R H x1 (l.take i) F1∧R H ys l[i] G∧SRep n R H x2 (l.drop (i+1)) F2∧bU F1 G∧bU F1 F2∧bU G F2:=by
 induction h generalizing i with
 | nil=>simp at hi
 | @cons zs xs x l F1 F2 h1 h2 h3 h4 ih =>
  cases i with
  | zero=>exact ⟨[],zs,xs,[],F1,F2,rfl,rfl,by simp,h2,.nil,h1,h3,bU.nil_left _,bU.nil_left _,h4⟩
  | succ i =>
   obtain ⟨x1,ys,x2,G1,G,G2,e1,e2,e3,e4,e5,e6,e7,e8,e9,e10⟩:=ih (i:=i) (by simpa using hi);subst e1;subst e2;refine ⟨zs++x1,ys,x2,F1++G1,G,G2,by simp,by simp,by simp [h2,e3,a3h];omega,e4,?_,e6,e7,?_,?_,e10⟩
   ·exact .cons h1 h2 e5 (h4.mono (fun _ h=>h) fun b hb=>by simp [hb])
   ·intro b hb hg;rcases a0T.1 hb with hb | hb
    ·exact h4 b hb (by simp [hg])
    ·exact e8 b hb hg
   ·intro b hb hg;rcases a0T.1 hb with hb | hb
    ·exact h4 b hb (by simp [hg])
    ·exact e9 b hb hg
theorem SRep.congr {xs xs':List Value}{l l':List α}{F F':aS} (h:SRep n R H xs l F) (e1:xs=xs') (e2:l=l') (e3:F=F'):SRep n R H xs' l' F':=by subst e1;subst e2;subst e3;exact h
def gb (n:Nat) (R:wX α) (H:au) (a:Option Addr) (l c:Nat) (zs:List α) (F:aS):Prop :=
 ∃ xs F1 F2,bZ n H a l c xs F1∧SRep n R H xs zs F2∧bU F1 F2∧F=F1++F2∧l=zs.length
theorem gb.nil:gb n R H none 0 0 [] []:=⟨[],[],[],bZ.nil n H,.nil,bU.nil_left _,rfl,rfl⟩
theorem gb.len {a:Option Addr}{l c:Nat}{zs:List α}{F:aS} (h:gb n R H a l c zs F):l=zs.length:=by obtain ⟨_,_,_,_,_,_,_,h⟩:=h;exact h
theorem gb.keep (hR:LF R){a:Option Addr}{l c:Nat}{zs:List α}{F:aS} (h:gb n R H a l c zs F) (he:∀ b∈F,H'[b]?=H[b]?):gb n R H' a l c zs F:=by
 obtain ⟨xs,F1,F2,h1,h2,h3,rfl,h5⟩:=h;exact ⟨xs,F1,F2,h1.keep (fun b hb=>he b (a0T.2 (.inl hb))),h2.keep hR (fun b hb=>he b (a0T.2 (.inr hb))),h3,rfl,h5⟩
theorem gb.lt (hR:Mn R){a:Option Addr}{l c:Nat}{zs:List α}{F:aS} (h:gb n R H a l c zs F):∀ b∈F,b<H.size:=by
 obtain ⟨xs,F1,F2,h1,h2,h3,rfl,h5⟩:=h;intro b hb;rcases a0T.1 hb with hb | hb
 ·exact h1.lt b hb
 ·exact h2.lt hR b hb
theorem gb.fr (hR:LF R) (hL:Mn R){a:Option Addr}{l c:Nat}{zs:List α}{F G:aS} (h:gb n R H a l c zs F) (hf:Fr G H H') (hd:bU F G):gb n R H' a l c zs F :=
 h.keep hR fun b hb=>hf.2 b (h.lt hL b hb) (hd b hb)
theorem gb.get {a:Option Addr}{l c:Nat}{zs:List α}{F:aS} (h:gb n R H a l c zs F){i:Nat} (hi:i<zs.length) :
  ∃ p ys G,a=some p∧p.spot=none∧p.off=0∧(∀ j,j<n->aq H ⟨p.block,i*n+j,none⟩=ys[j]?)∧ys.length=n∧R H ys zs[i] G∧(∀ b∈G,b∈F):=by
 obtain ⟨xs,F1,F2,h1,h2,h3,rfl,h5⟩:=h;obtain ⟨x1,ys,x2,G1,G,G2,e1,e2,e3,e4,e5,e6,e7,e8,e9,e10⟩:=h2.split hi;have hl:=h1.1;have an:i*n+n<=l*n:=by rw [h5,←Nat.succ_mul];exact a3a n hi
 rcases h1.2.2 with ⟨rfl,hc,_⟩ | ⟨b,cs,rfl,rfl,hb,hs,ht⟩
 ·have HS:=h1.2.1;subst hc
  have:l=0:=by omega
  omega
 ·refine ⟨_,ys,G,rfl,rfl,rfl,fun j hj=>?_,e4,e6,fun b hb=>by simp [e2,hb]⟩
  have:=(h1.rd).2.2 _ rfl (i*n+j) (by omega);rw [aB,a0K] at this;rw [this,e1,a2Z (by omega),a2x (by omega),e3]
  congr 1
  omega
theorem SRep.updIn (hR:LF R){xs:List Value}{l:List α}{F:aS} (h:SRep n R H xs l F){i:Nat} (hi:i<l.length) :
  ∃ x1 ys x2 G,xs=x1++(ys++x2)∧x1.length=i*n∧ys.length=n∧R H ys l[i] G∧(∀ b∈G,b∈F) ∧
   ∀ H' ys' z',ys'.length=n->R H' ys' z' G->(∀ b∈F,b∉G->H'[b]?=H[b]?)->SRep n R H' (x1++(ys'++x2)) (l.set i z') F:=by
 obtain ⟨x1,ys,x2,F1,G,F2,e1,e2,e3,e4,e5,e6,e7,e8,e9,e10⟩:=h.split hi;refine ⟨x1,ys,x2,G,e1,e3,e4,e6,fun b hb=>by simp [e2,hb],fun H' ys' z' hn hz hk=>?_⟩;have h1:SRep n R H' x1 (l.take i) F1:=e5.keep hR fun b hb=>hk b (by simp [e2,hb]) (e8 b hb);have h2:SRep n R H' x2 (l.drop (i+1)) F2:=e7.keep hR fun b hb=>hk b (by simp [e2,hb]) fun hg=>e10 b hg hb;have h3:=h1.append (SRep.cons hz hn h2 e10) fun b hb hg=>by
  rcases a0T.1 hg with hg | hg
  ·exact e8 b hb hg
  ·exact e9 b hb hg
 refine h3.congr rfl ?_ e2.symm;rw [List.set_eq_take_append_cons_drop,a0b hi]
theorem gb.updIn (hR:LF R) (hL:Mn R){a:Option Addr}{l c:Nat}{zs:List α}{F:aS} (h:gb n R H a l c zs F){i:Nat} (hi:i<zs.length) :
  ∃ p ys G,a=some p∧p.spot=none∧p.off=0∧(∀ j,j<n->aq H ⟨p.block,i*n+j,none⟩=ys[j]?)∧ys.length=n∧R H ys zs[i] G∧(∀ b∈G,b∈F) ∧
   ∀ H' z',R H' ys z' G->(∀ b∈F,b∉G->H'[b]?=H[b]?)->gb n R H' a l c (zs.set i z') F:=by
 have an:=h.lt hL;obtain ⟨p,ys0,G0,g1,g2,g3,g4,g5,g6,g7⟩:=h.get hi;obtain ⟨xs,F1,F2,h1,h2,h3,rfl,h5⟩:=h;obtain ⟨x1,ys,x2,G,e1,e2,e3,e4,e5,e6⟩:=h2.updIn hR hi;have UQ:ys=ys0:=by
  apply a2V (by rw [e3,g5]);intro j RY JD;have hj:j<n:=by omega
  have h6:=g4 j hj;have HS:i*n+j<l*n:=by
   have h7:i*n+n<=l*n:=by rw [h5,←Nat.succ_mul];exact a3a n hi
   omega
  have:=(h1.rd).2.2 p g1 (i*n+j) HS;obtain ⟨pb,po,ps⟩:=p;simp only at g2 g3 h6;subst g2;subst g3;rw [aB,a0K] at this;rw [this,e1,a2Z (by omega),a2x (by omega),e2] at h6;rw [show i*n+j-i*n=j by omega,a0Q RY,a0Q JD] at h6;exact Option.some.inj h6
 refine ⟨p,ys,G,g1,g2,g3,by rw [UQ];exact g4,e3,e4,fun b hb=>by simp [e5 b hb],fun H' z' hz hk=>?_⟩;refine ⟨xs,F1,F2,h1.keep fun b hb=>hk b (by simp [hb]) fun hg=>h3 b hb (e5 b hg),?_,h3,rfl,by simpa using h5⟩;rw [e1];exact e6 H' ys z' e3 hz fun b hb hn=>hk b (by simp [hb]) hn
theorem gb.snoc {P:Program}{T T' T0 bs:Nat}{z:Value} (hR:LF R) (hL:Mn R){a:Option Addr}{l c:Nat}{zs:List α}{F G:aS}{ys:Array Value}{e:TypeId}{x:α}{Q:Value->au->Prop}
  (hs:bd P T=some (n,bs,some z)) (hz:z.cells.size=n) (hT:oI P T'=true) (h:gb n R H a l c zs F) (hx:R H ys.toList x G) (hn:ys.size=n) (hd:bU F G) (Js:∀ v∈ys.toList,dJ v=true) (hl:l<274877906944) (RX:bs<=128) (OI:bs≠0)
  (hq:∀ a' c' F' H',gb n R H' a' (l+1) c' (zs++[x]) F'->Fr F H H'->(∀ b∈F',b∈F∨b∈G∨H.size<=b)->Q (.slice a' (l+1) c') H') :
  cB P (Builtin.append_ #[T,T'] T0 #[.slice a l c,.slice (some ⟨H.size,0,none⟩) 1 1]) Q (H.push (.cells ys e)):=by
 obtain ⟨xs,F1,F2,h1,h2,h3,rfl,h5⟩:=h;refine bK hs hz hT h1 hn Js hl RX OI fun a' c' F' H' g1 g2 g3=>?_;have be:=h2.lt hL;have Wd:=hL _ _ _ _ hx;have hk:∀ b∈F2++G,H'[b]?=H[b]?:=by
  intro b hb;rcases a0T.1 hb with hb | hb
  ·exact g2.1.2 b (be b hb) fun hm=>h3 b hm hb
  ·exact g2.1.2 b (Wd b hb) fun hm=>hd b (by simp [hm]) hb
 refine hq a' c' (F'++(F2++G)) H' ⟨xs++ys.toList,F',F2++G,g1,?_,fun b hb k8=>?_,rfl,by simp [h5]⟩ (g2.1.mono fun b hb=>by simp [hb]) fun b hb=>?_
 ·refine (h2.keep hR fun b hb=>hk b (by simp [hb])).append (SRep.one (hR _ _ _ _ _ hx fun b hb=>hk b (by simp [hb])) (by simpa using hn)) fun b hb hg=>hd b (by simp [hb]) hg
 ·rcases g2.2 b hb with h6 | h6
  ·rcases a0T.1 k8 with h7 | h7
   ·exact h3 b h6 h7
   ·exact hd b (by simp [h6]) h7
  ·rcases a0T.1 k8 with h7 | h7
   ·have:=be b h7;omega
   ·have:=Wd b h7;omega
 ·rcases a0T.1 hb with h6 | h6
  ·rcases g2.2 b h6 with h7 | h7
   ·exact .inl (by simp [h7])
   ·exact .inr (.inr h7)
  ·rcases a0T.1 h6 with h7 | h7
   ·exact .inl (by simp [h7])
   ·exact .inr (.inl h7)
end
abbrev wK (p:Int × Int):Value:=.tuple #[.int .i64 p.1,.int .i64 p.2]
abbrev nM (p:Int × Int × Int):Value:=.tuple #[.int .i64 p.1,.int .i64 p.2.1,.int .i64 p.2.2]
structure RO where
 oop:Int
 fmt:Int
 place:Int
 born:Int
 cls:Int
 slots:List Int
structure RH where
 words:Int
 oops:Int
 mark:Int
 born:Int
 turn:Int
 objs:List RO
def lenOf (n fmt:Int):Int:=if fmt=1 then 2+(n+3) / 4 else 2+n
def RO.len (o:RO):Int:=lenOf (o.slots.length:Int) o.fmt
def aT (l:List RO) (k:Int):Option RO:=l.find? fun o=>decide (o.oop=k)
def bT (l:List RO):Int:=match l.getLast? with
 | none=>0
 | some o=>o.place+o.len
def fv (fmt w:Int):Prop:=if fmt=1 then 0<=w∧w<=255 else dL w
instance (fmt w:Int):Decidable (fv fmt w):=by unfold fv;exact inferInstance
def pQ (l:List RO):Nat->Int->Int
 | 0,k=>k
 | n+1,k=>if (aT l k).isSome then pQ l n (k+1) else k
def cQ (l:List RO):Int:=pQ l 65600 1
structure GoodO (words oops:Int) (o:RO):Prop where
 oop1:1<=o.oop
 oop2:o.oop<=oops
 fmt:o.fmt=0∨o.fmt=1
 pl:0<=o.place
 fits:o.place+o.len<=words
 cls:dL o.cls
 many:o.slots.length<=8192
 may:∀ w∈o.slots,fv o.fmt w
def rn (a b:RO):Prop:=a.oop≠b.oop∧a.place+a.len<=b.place
structure WFO (words oops:Int) (l:List RO):Prop where
 good:∀ o∈l,GoodO words oops o
 pw:l.Pairwise rn
structure WFH (r:RH):Prop where
 w0:0<=r.words
 w1:r.words<=1048576
 o0:0<=r.oops
 o1:r.oops<=65536
 m0:0<=r.mark
 m1:r.mark<=1073741824
 objs:WFO r.words r.oops r.objs
theorem jP {n fmt:Int} (h:0<=n):2<=lenOf n fmt:=by unfold lenOf;split <;> omega
theorem jg {n fmt:Int} (h:0<=n):lenOf n fmt<=2+n+3:=by unfold lenOf;split <;> omega
theorem RO.len_pos (o:RO):2<=o.len:=jP (by omega)
theorem aR {l:List RO}{k:Int}{o:RO} (h:aT l k=some o):o∈l∧o.oop=k:=by
 unfold aT at h;exact ⟨List.mem_of_find?_eq_some h,by simpa using List.find?_some h⟩
theorem eB {l:List RO}{k:Int}:aT l k=none↔∀ o∈l,o.oop≠k:=by
 unfold aT;simp [List.find?_eq_none]
theorem xH {l:List RO} (h:l.Pairwise rn){a b:RO} (ha:a∈l) (hb:b∈l):a=b∨rn a b∨rn b a:=by
 induction h with
 | nil=>cases ha
 | @cons x l hx _ ih =>
  rcases a0E.1 ha with e1 | Sx
  ·rcases a0E.1 hb with e2 | k9
   ·exact .inl (e1.trans e2.symm)
   ·exact .inr (.inl (e1 ▸ hx b k9))
  ·rcases a0E.1 hb with e2 | k9
   ·exact .inr (.inr (e2 ▸ hx a Sx))
   ·exact ih Sx k9
theorem cN {words oops:Int}{l:List RO} (hw:WFO words oops l){o:RO} (h:o∈l):aT l o.oop=some o:=by
 cases hf:aT l o.oop with
 | none=>exact absurd rfl (eB.1 hf o h)
 | some o' =>
  obtain ⟨h1,h2⟩:=aR hf;rcases xH hw.pw h1 h with rfl | h3 | h3
  ·rfl
  ·exact absurd h2 h3.1
  ·exact absurd h2.symm h3.1
theorem fS {l:List RO}{x:RO}{k:Int}:aT (l++[x]) k=match aT l k with
  | some o=>some o
  | none=>if x.oop=k then some x else none:=by
 unfold aT;rw [List.find?_append];cases List.find? (fun o=>decide (o.oop=k)) l with
 | some o=>rfl
 | none =>
  simp only [Option.none_or,a3u,List.find?_nil];by_cases h:x.oop=k <;> simp [h]
theorem apart {words oops:Int}{l:List RO} (hw:WFO words oops l){a b:RO} (ha:a∈l) (hb:b∈l) (hn:a.oop≠b.oop):a.place+a.len<=b.place∨b.place+b.len<=a.place:=by
 rcases xH hw.pw ha hb with rfl | h | h
 ·exact absurd rfl hn
 ·exact .inl h.2
 ·exact .inr h.2
theorem eS (l:List RO) (x:RO):bT (l++[x])=x.place+x.len:=by simp [bT]
theorem mT {words oops:Int}{l:List RO} (hw:WFO words oops l){o:RO} (h:o∈l):o.place+o.len<=bT l:=by
 rcases a2G l with rfl | ⟨m,x,rfl⟩ <;> (try simp only [a2P] at *)
 ·cases h
 ·rw [eS];rcases a0T.1 h with h | h
  ·have:=(a3b.1 hw.pw).2.2 o h x (by simp)
   have:=this.2
   have:=x.len_pos;omega
  ·simp at h;subst h;exact a1F _
theorem cJ {words oops:Int}{l:List RO} (hw:WFO words oops l) (h0:0<=words):0<=bT l∧bT l<=words:=by
 rcases a2G l with rfl | ⟨m,x,rfl⟩ <;> (try simp only [a2P] at *)
 ·exact ⟨by simp [bT],by simpa [bT] using h0⟩
 ·rw [eS];have hg:=hw.good x (by simp)
  have:=hg.pl
  have:=hg.fits
  have:=x.len_pos;omega
theorem ny (l:List RO):∀ (n:Nat) (k m:Int),k<=m->m<k+n->aT l m=none->(∀ j,k<=j->j<m->aT l j≠none)->pQ l n k=m
 | 0,k,m,h1,h2,_,_=>by omega
 | n+1,k,m,h1,h2,h3,h4=>by
  unfold pQ;by_cases h:k=m
  ·subst h;simp [h3]
  ·have h5:aT l k≠none:=h4 k (by omega) (by omega);rw [a0b (by cases hk:aT l k with | none=>exact absurd hk h5 | some _=>rfl)];exact ny l n (k+1) m (by omega) (by omega) h3 fun j hj=>h4 j (by omega)
theorem xG {l:List RO}{m:Int} (h1:1<=m) (h2:m<=65537) (h3:aT l m=none) (h4:∀ j,1<=j->j<m->aT l j≠none):cQ l=m :=
 ny l 65600 1 m h1 (by omega) h3 h4
theorem vD:∀ (n:Nat) (l:List RO),(∀ k:Int,1<=k->k<=n->∃ o∈l,o.oop=k)->n<=l.length
 | 0,_,_=>a07 _
 | n+1,l,h=>by
  obtain ⟨o,ho,hk⟩:=h (n+1:Nat) (by omega) (by omega);obtain ⟨s,t,rfl⟩:=a4h ho
  have:=vD n (s++t) fun k h1 h2=>by
   obtain ⟨o',xB,JL⟩:=h k h1 (by omega);refine ⟨o',?_,JL⟩;have ic:o'≠o:=fun e=>by subst e;omega
   simp only [a0T,a0E] at xB ⊢;rcases xB with h | h | h
   ·exact .inl h
   ·exact absurd h ic
   ·exact .inr h
  simp only [a1h,a1b] at this ⊢;omega
theorem jW {l:List RO}:∀ (n:Nat) (k:Int),(∃ m,k<=m∧m<k+n∧aT l m=none)->∃ m,k<=m∧m<k+n∧aT l m=none∧∀ j,k<=j->j<m->aT l j≠none
 | 0,k,⟨m,h1,h2,_⟩=>by omega
 | n+1,k,⟨m,h1,h2,h3⟩=>by
  by_cases h:aT l k=none
  ·exact ⟨k,a1F _,by omega,h,fun j h1 h2=>by omega⟩
  ·have hm:k≠m:=fun e=>h (e ▸ h3);obtain ⟨m',g1,g2,g3,g4⟩:=jW n (k+1) ⟨m,by omega,by omega,h3⟩;refine ⟨m',by omega,by omega,g3,fun j h1 h2=>?_⟩;by_cases hj:j=k
   ·subst hj;exact h
   ·exact g4 j (by omega) h2
theorem eX {words oops:Int}{l:List RO} (hw:WFO words oops l) (h1:oops<=65536) (h:(l.length:Int)<oops) :
  1<=cQ l∧cQ l<=oops∧aT l (cQ l)=none∧∀ j,1<=j->j<cQ l->aT l j≠none:=by
 have VP:∃ m,1<=m∧m<1+(oops.toNat:Int)∧aT l m=none:=by
  refine a0v fun Db=>?_
  have:=vD oops.toNat l fun k JC OU=>by
   cases hk:aT l k with
   | none=>exact absurd ⟨k,JC,by omega,hk⟩ Db
   | some o=>exact ⟨o,(aR hk).1,(aR hk).2⟩
  omega
 obtain ⟨m,g1,g2,g3,g4⟩:=jW _ _ VP;have e:=xG g1 (by omega) g3 g4;rw [e];exact ⟨g1,by omega,g3,g4⟩
def ft (r:RH) (cls n fmt:Int):RO:=⟨cQ r.objs,fmt,bT r.objs,r.born,cls,List.replicate n.toNat (if fmt=1 then 0 else 4)⟩
def RH.alloc (r:RH) (cls n fmt:Int):(Int × Int) × RH :=
 if ¬ dL cls∨fmt<0∨1<fmt∨n<0 then ((0,1),r)
 else if 8192<n then ((0,22),r)
 else if r.oops<=(r.objs.length:Int)∨r.words<bT r.objs+lenOf n fmt then ((0,23),r)
 else if r.mark=1 then ((0,24),{ r with mark:=0 })
 else ((cQ r.objs,0),{ r with mark:=if 0<r.mark then r.mark-1 else r.mark,born:=IntKind.wrap .i64 (r.born+1),objs:=r.objs++[ft r cls n fmt] })
def gX (l:List RO) (k:Int) (f:RO->RO):List RO:=l.map fun o=>if o.oop=k then f o else o
def d8 (i w:Int) (o:RO):RO:={ o with slots:=o.slots.set i.toNat w }
def RH.at (r:RH) (k i:Int):Int × Int:=match aT r.objs k with
 | none=>(0,20)
 | some o=>if i<0∨(o.slots.length:Int)<=i then (0,21) else (o.slots.getD i.toNat 0,0)
def RH.put (r:RH) (k i w:Int):Int × RH:=match aT r.objs k with
 | none=>(20,r)
 | some o=>if i<0∨(o.slots.length:Int)<=i then (21,r) else if ¬ fv o.fmt w then (10,r) else (0,{ r with objs:=gX r.objs k (d8 i w) })
def RH.clsAt (r:RH) (k:Int):Int × Int:=match aT r.objs k with
 | none=>(0,20)
 | some o=>(o.cls,0)
def RH.size (r:RH) (k:Int):Int × Int × Int:=match aT r.objs k with
 | none=>(0,0,20)
 | some o=>((o.slots.length:Int),o.fmt,0)
def RH.marks (r:RH) (k:Int):Int × RH:=if 0<=k∧k<=1073741824 then (0,{ r with mark:=k }) else (1,r)
def cF:Int->List RO->List RO
 | _,[]=>[]
 | at_,o :: l=>{ o with place:=at_ } :: cF (at_+o.len) l
def RH.keepO (r:RH) (l:List Int):List RO:=cF 0 (r.objs.filter fun o=>decide (o.oop∈l))
def RH.keep (r:RH) (l:List Int):(Int × Int × Int) × RH :=
 if ∃ k∈l,aT r.objs k=none then ((0,0,20),r)
 else (((r.objs.length:Int)-((r.keepO l).length:Int),bT r.objs-bT (r.keepO l),0),{ r with objs:=r.keepO l,turn:=IntKind.wrap .i64 (r.turn+1) })
def RH.upto (r:RH) (n:Nat):List Int:=((List.range n).map fun i:Nat=>(i:Int)).filter fun k=>(aT r.objs k).isSome
def RH.all (r:RH):List Int:=r.upto (r.oops+1).toNat
theorem RH.upto_succ (r:RH) (n:Nat):r.upto (n+1)=r.upto n++if (aT r.objs n).isSome then [(n:Int)] else []:=by
 unfold RH.upto;rw [a4F,a2m,a2T]
 congr 1
 simp only [a2k,a26,List.filter_cons,List.filter_nil]
theorem RH.upto_len (r:RH) (n:Nat):(r.upto n).length<=n:=by
 unfold RH.upto;exact a0O (a2w _ _) (by simp)
theorem RH.mem_all {r:RH} (h:WFH r){k:Int}:k∈r.all↔aT r.objs k≠none:=by
 unfold RH.all RH.upto;simp only [a2l,a1n,a4e];constructor
 ·rintro ⟨_,h2⟩ h3;rw [h3] at h2;cases h2
 ·intro hk;cases ho:aT r.objs k with
  | none=>exact absurd ho hk
  | some o =>
   have hg:=h.objs.good o (aR ho).1;have h1:=hg.oop1;have h2:=hg.oop2;rw [(aR ho).2] at h1 h2;exact ⟨⟨k.toNat,by omega,by omega⟩,rfl⟩
theorem vN (l:List RO) (k:Int) (f:RO->RO):(gX l k f).length=l.length:=by simp [gX]
theorem dH {l:List RO}{k j:Int}{f:RO->RO} (hf:∀ o,(f o).oop=o.oop):aT (gX l k f) j=(aT l j).map fun o=>if o.oop=k then f o else o:=by
 induction l with
 | nil=>rfl
 | cons o l ih =>
  unfold aT gX at *;simp only [a2k,a3u];have e:(if o.oop=k then f o else o).oop=o.oop:=by split <;> simp [hf]
  rw [e];by_cases h:o.oop=j
  ·simp [h]
  ·simp only [h,decide_false];exact ih
theorem Nu {l:List RO}{g:RO->RO} (h1:∀ o,(g o).oop=o.oop) (h2:∀ o,(g o).place=o.place) (h3:∀ o,(g o).len=o.len) (h:l.Pairwise rn):(l.map g).Pairwise rn:=by
 rw [a2M];refine h.imp fun {a b} Tl=>?_;unfold rn at *;rw [h1,h1,h2,h2,h3];exact Tl
theorem lG (i w:Int) (o:RO):(d8 i w o).len=o.len:=by simp [d8,RO.len]
theorem tm {l:List RO}{k:Int}{f:RO->RO} (h2:∀ o,(f o).place=o.place) (h3:∀ o,(f o).len=o.len):bT (gX l k f)=bT l:=by
 unfold bT gX;rw [List.getLast?_map];cases l.getLast? with
 | none=>rfl
 | some o =>
  show (if o.oop=k then f o else o).place+(if o.oop=k then f o else o).len=o.place+o.len;split
  ·rw [h2,h3]
  ·rfl
theorem uV {words oops:Int}{l:List RO} (hw:WFO words oops l){n:Nat} (hn:n<l.length) (f:RO->RO):gX l l[n].oop f=l.set n (f l[n]):=by
 apply a2V
 ·simp [gX]
 ·intro j h1 h2;simp only [gX,a3e,List.getElem_set];have hj:j<l.length:=by simpa [gX] using h1
  by_cases h:n=j
  ·subst h;simp
  ·rw [a0a h,a0a];intro he;have h3:=cN hw (a04 hj);have h4:=cN hw (a04 hn);have hpw:=List.pairwise_iff_getElem.1 hw.pw;rcases a2t n j with h5 | h5
   ·exact (hpw n j hn hj h5).1 he.symm
   ·exact (hpw j n hj hn (by omega)).1 he
theorem ke {r:RH} (h:WFH r) (cls n fmt:Int):WFH (r.alloc cls n fmt).2:=by
 unfold RH.alloc;split
 ·exact h
 split
 ·exact h
 split
 ·exact h
 split
 ·exact { h with m0:=by simp,m1:=by simp }
 ·rename_i h1 h2 h3 h4;have hl:=eX h.objs h.o1 (by omega);have hlen:(ft r cls n fmt).len=lenOf n fmt:=by simp only [ft,RO.len,a3f];congr 1;omega
  have he:=cJ h.objs h.w0;have VQ:=h.m0;have CO:=h.m1;refine { w0:=h.w0,w1:=h.w1,o0:=h.o0,o1:=h.o1,m0:=?_,m1:=?_,objs:=⟨?_,?_⟩ }
  ·show 0<=if 0<r.mark then r.mark-1 else r.mark;split <;> omega
  ·show (if 0<r.mark then r.mark-1 else r.mark)<=1073741824;split <;> omega
  ·intro o ho;rcases a0T.1 ho with ho | ho
   ·exact h.objs.good o ho
   ·simp at ho;subst ho;refine { oop1:=hl.1,oop2:=hl.2.1,fmt:=?_,pl:=he.1,fits:=?_,cls:=?_,many:=?_,may:=?_ }
    ·show fmt=0∨fmt=1;omega
    ·rw [hlen];show bT r.objs+lenOf n fmt<=r.words;omega
    ·exact a0v fun hc=>h1 (.inl hc)
    ·simp only [ft,a3f];omega
    ·intro w hw;simp only [ft] at hw ⊢
     have:=List.eq_of_mem_replicate hw;subst this;unfold fv;split
     ·simp
     ·decide
  ·rw [a3b];refine ⟨h.objs.pw,by simp,fun a ha b hb=>?_⟩;simp at hb;subst hb;exact ⟨eB.1 hl.2.2.1 a ha,mT h.objs ha⟩
theorem kW {r:RH} (h:WFH r) (k i w:Int):WFH (r.put k i w).2:=by
 unfold RH.put;split
 ·exact h
 split
 ·exact h
 split
 ·exact h
 ·rename_i o ho h1 h2;refine { h with objs:=⟨?_,?_⟩ }
  ·intro o' xB;simp only [gX,a1n] at xB;obtain ⟨a,ha,rfl⟩:=xB;have hg:=h.objs.good a ha;split
   ·rename_i hk
    have:a=o:=by have:=cN h.objs ha;rw [hk,ho] at this;exact (Option.some.inj this).symm
    subst this;refine { oop1:=hg.oop1,oop2:=hg.oop2,fmt:=hg.fmt,pl:=hg.pl,fits:=by rw [lG];exact hg.fits,cls:=hg.cls,many:=by simpa [d8] using hg.many,may:=?_ };intro x hx;rcases a3C hx with hx | rfl
    ·exact hg.may x hx
    ·exact a0v h2
   ·exact hg
  ·refine Nu (fun o=>?_) (fun o=>?_) (fun o=>?_) h.objs.pw
   ·split <;> rfl
   ·split <;> rfl
   ·split
    ·exact lG i w o
    ·rfl
theorem BW {r:RH} (h:WFH r) (k:Int):WFH (r.marks k).2:=by
 unfold RH.marks;split
 ·exact { h with m0:=by simp;omega,m1:=by simp;omega }
 ·exact h
theorem lO (at_:Int) (l:List RO):(cF at_ l).length=l.length:=by
 induction l generalizing at_ with
 | nil=>rfl
 | cons o l ih=>simp [cF,ih]
theorem i8 {at_:Int}{l:List RO}{x:RO} (h:x∈cF at_ l):∃ o∈l,x={ o with place:=x.place }∧at_<=x.place:=by
 induction l generalizing at_ with
 | nil=>cases h
 | cons o l ih =>
  rcases a0E.1 h with rfl | h
  ·exact ⟨o,by simp,rfl,a1F _⟩
  ·obtain ⟨o',h1,h2,h3⟩:=ih h;exact ⟨o',by simp [h1],h2,by have:=o.len_pos;omega⟩
theorem nJ {words oops:Int}:∀ (l:List RO) (at_:Int),WFO words oops l->0<=at_->(∀ o∈l,at_<=o.place)->WFO words oops (cF at_ l)∧(∀ x∈cF at_ l,at_<=x.place)
 | [],_,h,_,_=>⟨h,by simp [cF]⟩
 | o :: l,at_,h,h0,HS=>by
  have hp:=a2z.1 h.pw;have hg:=h.good o (by simp);have ho:=HS o (by simp);have hlen:({ o with place:=at_ }:RO).len=o.len:=rfl;have In:=o.len_pos;have ih:=nJ l (at_+o.len) ⟨fun x hx=>h.good x (by simp [hx]),hp.2⟩ (by omega) fun x hx=>by have:=(hp.1 x hx).2;omega
  refine ⟨⟨?_,?_⟩,?_⟩
  ·intro x hx;rcases a0E.1 hx with rfl | hx
   ·have hf:=hg.fits;exact { oop1:=hg.oop1,oop2:=hg.oop2,fmt:=hg.fmt,pl:=h0,fits:=by rw [hlen];show at_+o.len<=words;omega,cls:=hg.cls,many:=hg.many,may:=hg.may }
   ·exact ih.1.good x hx
  ·refine a2z.2 ⟨fun x hx=>⟨?_,?_⟩,ih.1.pw⟩
   ·obtain ⟨o',h1,h2,_⟩:=i8 hx;rw [h2];exact (hp.1 o' h1).1
   ·rw [hlen];exact ih.2 x hx
  ·intro x hx;rcases a0E.1 hx with rfl | hx
   ·exact a1F _
   ·have:=ih.2 x hx;omega
theorem WFO.filter {words oops:Int}{l:List RO} (h:WFO words oops l) (p:RO->Bool):WFO words oops (l.filter p) :=
 ⟨fun o ho=>h.good o (a2l.1 ho).1,h.pw.filter p⟩
theorem qh {r:RH} (h:WFH r) (l:List Int):WFO r.words r.oops (r.keepO l) :=
 (nJ _ 0 (h.objs.filter _) (a1F _) fun o ho=>(h.objs.good o (a2l.1 ho).1).pl).1
theorem fT {r:RH} (h:WFH r) (l:List Int):WFH (r.keep l).2:=by
 unfold RH.keep;split
 ·exact h
 ·exact { h with objs:=qh h l }
end Kw
