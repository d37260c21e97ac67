/- Lemmas for RPU: functions of the program as predicate transformers, and their contracts. -/
import Derived.OrdersHeld
import Derived.Laws.Sem
import Derived.KernelRfl
import Derived.RangeFuncRecord
import Derived.TacticsIn
import Derived.Tactics
import Derived.Test.YtgjfejoohojokaaGreatDoorProg
import Derived.Laws.Strings
import Derived.Shelf.SlSortCmp.Whole1
import Derived.Ground.SlsfProg
set_option linter.all false
set_option maxRecDepth 100000
set_option maxHeartbeats 4000000
namespace Kw
open Go
def Uq:=@if_neg
def Ur:=@if_pos
def Us:=@List.mem_cons
def Ut:=@cond_false
def Uu:=@List.mem_singleton
def Uv:=@Classical.byContradiction
def Uw:=@Option.isNone_some
def Ux:=@Nat.le_trans
def Uy:=@Int.toNat_natCast
def Uz:=@List.mem_append
def UA:=@Option.isNone_none
def UB:=@Bool.not_true
def UC:=@Nat.mul_one
def UD:=@List.getD_eq_getElem?_getD
def UE:=@Nat.zero_add
def UF:=@List.getElem?_eq_getElem
def UG:=@Bool.not_false
def UI:=@Nat.le_refl
def UJ:=@Nat.lt_of_lt_of_le
def UK:=@cond_true
def UL:=@Array.size_push
def UM:=@List.mem_map
def UN:=@Array.getElem?_eq_some_iff
def UO:=@List.not_mem_nil
def UP:=@List.length_append
def UQ:=@List.getElem_mem
def US:=@List.length_cons
def UT:=@and_assoc
def UU:=@true_and
def UV:=@and_true
def UX:=@List.eq_nil_of_length_eq_zero
def UY:=@List.take_of_length_le
def UZ:=@List.length_map
def U0:=@List.getD_cons_zero
def U2:=@Array.getElem?_modify
def U3:=@Bool.and_eq_true
def U4:=@List.length_take
def U5:=@or_false
def U6:=@List.mem_filter
def U7:=@Nat.zero_le
def U8:=@List.map_cons
def U9:=@Bool.false_eq_true
def Va:=@List.getElem?_map
def Vb:=@List.mem_cons_of_mem
def Vc:=@List.mem_iff_getElem
def Vd:=@List.getElem?_eq_none
def Ve:=@Array.getElem?_eq_none
def Vf:=@List.map_append
def Vg:=@List.pairwise_cons
def Vh:=@Int.toNat_of_nonneg
def Vi:=@List.length_nil
def Vj:=@List.take_add_one
def Vk:=@Array.getElem?_setIfInBounds_ne
def Vl:=@List.nodup_cons
def Vm:=@Array.getElem?_toList
def Vn:=@List.length_mergeSort
def Vo:=@Int.le_refl
def Vp:=@Nat.lt_or_ge
def Vq:=@List.append_assoc
def Vr:=@List.drop_eq_getElem_cons
def Vs:=@decide_eq_true
def Vt:=@not_or
def Vu:=@List.eq_nil_or_concat
def Vv:=@List.nodup_iff_pairwise_ne
def Vw:=@Option.map_some
def Vx:=@List.mem_append_left
def Vy:=@Nat.pow_le_pow_right
def Vz:=@decide_eq_false
def VA:=@List.all_eq_true
def VB:=@List.take_append_of_le_length
def VC:=@Array.getElem?_append_left
def VD:=@List.size_toArray
def VE:=@List.pairwise_map
def VF:=@List.concat_eq_append
def VG:=@List.length_replicate
def VH:=@List.pairwise_append
def VI:=@List.nodup_append
def VJ:=@List.append_nil
def VK:=@List.getElem_of_mem
def VL:=@Nat.testBit_lt_two_pow
def VM:=@List.ext_getElem
def VN:=@List.getElem?_append_left
def VO:=@Nat.le_succ
def VP:=@List.map_nil
def VQ:=@List.getElem?_take_of_lt
def VR:=@List.getElem_append_left
def VS:=@Array.getElem?_push
def VT:=@List.getElem_map
def VU:=@Option.isSome_none
def VV:=@List.mem_append_right
def VW:=@List.length_filter_le
def VX:=@List.perm_ext_iff_of_nodup
def VY:=@List.getElem?_set
def VZ:=@Nat.mul_le_mul_right
def V0:=@List.mem_of_mem_take
def V1:=@List.getElem?_eq_some_iff
def V2:=@Nat.add_mul
def V3:=@List.findIdx?_eq_some_iff_getElem
def V4:=@List.map_map
def V5:=@Ne.symm
def V6:=@List.mem_cons_self
def V7:=@Bool.eq_iff_iff
def V8:=@List.find?_cons
def V9:=@Option.map_eq_some_iff
def Wa:=@Array.size_append
def Wb:=@List.length_drop
def Wc:=@List.take_length
def Wd:=@List.drop_length
def We:=@List.cons_append
def Wf:=@Int.tdiv_eq_ediv_of_nonneg
def Wg:=@Nat.lt_irrefl
def Wh:=@List.map_congr_left
def Wi:=@List.findIdx?_eq_none_iff
def Wj:=@List.nil_append
def Wk:=@Array.getElem?_eq_getElem
def Wl:=@Array.getElem?_push_size
def Wm:=@List.getElem_range
def Wn:=@List.append_of_mem
def Wo:=@List.mem_range
def Wp:=@Nat.testBit_mod_two_pow
def Wq:=@Nat.testBit_div_two_pow
def Ws:=@List.length_range
def Wt:=@List.getElem_take
def Wu:=@List.ext_getElem?
def Wv:=@List.Perm.map
def Ww:=@List.sum_cons
def Wx:=@List.take_succ_eq_append_getElem
def Wy:=@List.perm_middle
def Wz:=@List.set_append_right
def WA:=@ByteArray.size_append
def WB:=@Nat.sub_zero
def WC:=@Option.map_none
def WD:=@List.length_set
def WE:=@List.getElem!_eq_getElem?_getD
def WF:=@List.foldl_cons
def WG:=@BitVec.getLsbD_ofNat
def WH:=@Int.mul_le_mul_of_nonneg_left
def WI:=@Array.getElem?_setIfInBounds
def WJ:=@List.take_take
def WL:=@Bool.false_and
def WM:=@List.filter_append
def WN:=@Nat.eq_zero_or_pos
def WO:=@Option.isSome_some
def WP:=@List.getElem?_take
def WQ:=@List.all_cons
def WS:=@Int.add_assoc
def WT:=@Bool.not_eq_true'
def WU:=@Array.toList_push
def WV:=@List.Sublist.refl
def WW:=@Int.mul_comm
def WX:=@Nat.add_zero
def WY:=@List.filter_cons
def WZ:=@Nat.le_add_right
def W2:=@Int.natCast_ediv
def W3:=@Nat.sub_self
def W4:=@Array.ext
def W5:=@Int.natCast_mul
def W6:=@List.range_succ
abbrev ag:=Array Obj
def aq (H:ag) (a:Addr):Option Value :=
 match H[a.block]? with
 | some (.cells c _ _)=>if a.spot.isSome then none else c[a.off]?
 | _=>none
def jX (H:ag) (r:Nat):Option (TypeId × Nat) :=
 match H[r]? with
 | some (.cells c elem _)=>some (elem,c.size)
 | _=>none
def oP (H:ag) (a:Addr):Bool :=
 match H[a.block]? with
 | some (.cells _ _ (lo,hi))=>lo<=a.off && a.off<hi
 | _=>false
def eG (H:ag) (a:Addr) (n:Nat):ag :=
 if n=0 then H else
 H.modify a.block fun
   | .cells c elem (lo,hi)=>.cells c elem (if lo == hi then (a.off,a.off+n) else (min lo a.off,max hi (a.off+n)))
   | o=>o
def bc (H:ag) (a:Addr) (v:Value):ag :=
 H.modify a.block fun
   | .cells c elem frozen=>.cells (if a.spot.isSome then c else c.setIfInBounds a.off v) elem frozen
   | o=>o
def Wr (H:ag) (a:Addr):Prop:=(∃ v,aq H a=some v)∧oP H a=false
def ge:Value->Bool
 | .agg _ | .tuple _=>false
 | _=>true
def dA:Obj->Bool
 | .cells .. | .deferred _ | .loop _=>true
 | _=>false
def dg (H H':ag):Prop:=H.size<=H'.size∧∀ (b:Nat) (ds:Option (List Deferred)),H[b]?=some (Obj.deferred ds)->H'[b]?=some (Obj.deferred ds)
def cO (w w':World):Prop:=w'.tape=w.tape∧w'.os=w.os∧w'.output=w.output∧w.drawn<=w'.drawn∧dg w.heap w'.heap
def cu (P:Program){α:Type}:Sem α->(α->ag->Prop)->ag->Prop
 | .pure a,Q,H=>Q a H
 | .load _ a k,Q,H=>∃ v,aq H a=some v∧cu P (k v) Q H
 | .store _ a v k,Q,H=>ge v=true∧Wr H a∧cu P k Q (bc H a v)
 | .new o k,Q,H=>cu P (k H.size) Q (H.push o)
 | .shape r k,Q,H=>cu P (k (jX H r)) Q H
 | .freeze a n k,Q,H=>cu P k Q (eG H a n)
 | .frozen a k,Q,H=>cu P (k (oP H a)) Q H
 | .getObj r k,Q,H=>∃ o,H[r]?=some o∧dA o=false∧cu P (k o) Q H
 | .setObj r o k,Q,H=>(∃ o',H[r]?=some o'∧dA o'=false)∧cu P k Q (H.setIfInBounds r o)
 | .choose q k,Q,H=>if q.forced then cu P (k 0) Q H else ∀ t,cu P (k (q.cut t)) Q H
 | .sys _ _,_,_=>False
 | .program k,Q,H=>cu P (k P) Q H
 | .mark _ k,Q,H=>cu P k Q H
 | .halt _,_,_=>False
def ET (P:Program){α:Type}:Sem α->(α->Prop)->Prop
 | .pure a,k=>k a
 | .program c,k=>ET P (c P) k
 | .mark _ c,k=>ET P c k
 | _,_=>False
def pI (d:Option TypeDesc) (k:Value->Prop):Prop :=
 match d with
 | some (.int κ)=>∃ n:Int,k (.int κ n)
 | some .bool=>∃ b:Bool,k (.bool b)
 | some .string=>∃ s:ByteArray,k (.string s)
 | some (.pointer _)=>∃ p:Option Addr,k (.pointer p)
 | some (.slice _)=>∃(a:Option Addr) (l c:Nat),k (.slice a l c)
 | some (.map _ _)=>∃ r:Option Nat,k (.map r)
 | some (.func _ _ _)=>∃(f:Nat) (g h:Array Value),k (.func (.func f) g h)
 | _=>∃ v:Value,k v
def lU (d:Option TypeDesc) (k:Value->Prop):Prop :=
 match d with
 | some (.func _ _ _)=>(∃(f:Nat) (g h:Array Value),k (.func (.func f) g h))∨k .nilFunc
 | d=>pI d k
def IX:List (Option TypeDesc)->(List Value->Prop)->Prop
 | [],k=>k []
 | d :: r,k=>lU d fun v=>IX r fun vs=>k (v :: vs)
def um (P:Program):Nat->TypeId->List (Option TypeDesc)
 | 0,_=>[]
 | n+1,t =>
  match P.underlying t with
  | some (.struct fs)=>fs.toList.flatMap fun f=>um P n f.type
  | some (.array len e)=>(List.replicate len (um P n e)).flatten
  | d=>[d]
def Hi (P:Program) (t:TypeId) (k:Value->Prop):Prop :=
 match P.underlying t with
 | some (.struct _) | some (.array _ _)=>IX (um P 20 t) fun vs=>k (.agg vs.toArray)
 | d=>pI d k
def Hd (P:Program):List TypeId->(List Value->Prop)->Prop
 | [],k=>k []
 | t :: r,k=>Hi P t fun v=>Hd P r fun vs=>k (v :: vs)
def xM (P:Program) (t:TypeId) (v:Value) (k:Value->Prop):Prop :=
 match P.underlying t with
 | some (.tuple ts)=>Hd P ts.toList fun vs=>v=.tuple vs.toArray∧k (.tuple vs.toArray)
 | _=>Hi P t fun x=>v=x∧k x
def wY (H:ag) (ad:Addr):Nat->List (Option TypeDesc)->(List Value->List (Addr × Value)->Prop)->Prop
 | _,[],k=>k [] []
 | i,d :: r,k=>lU d fun v=>aq H (ad.add i)=some v∧wY H ad (i+1) r fun vs cs=>k (v :: vs) ((ad.add i,v) :: cs)
def oV (P:Program) (t:TypeId) (ad:Addr) (H:ag) (k:Value->List (Addr × Value)->Prop):Prop :=
 match P.underlying t with
 | some (.struct _) | some (.array _ _) =>
  match decide ((P.info? t).map (·.size)=some (um P 20 t).length) with
  | true=>wY H ad 0 (um P 20 t) fun vs cs=>k (.agg vs.toArray) cs
  | false=>False
 | d=>match d with
  | some _=>lU d fun v=>aq H ad=some v∧k v [(ad,v)]
  | none=>False
def sv (ad:Addr):Nat->List Value->(ag->Prop)->ag->Prop
 | _,[],k,H=>k H
 | i,v :: r,k,H =>
  match ge v with
  | true=>Wr H (ad.add i)∧sv ad (i+1) r k (bc H (ad.add i) v)
  | false=>False
def sm (P:Program) (t:TypeId) (ad:Addr) (v:Value) (k:ag->Prop) (H:ag):Prop :=
 match decide ((P.info? t).map (·.size)=some v.cells.toList.length) with
 | true=>sv ad 0 v.cells.toList k H
 | false=>False
def ae (P:Program) (f:FuncId) (args:Array Value) (Q:Value->ag->Prop) (H:ag):Prop :=
 (∃ fn,P.funcs[f]?=some fn∧fn.body.isSome=true) ∧
 ∀ w:World,w.heap=H->Calls P f args w fun e w'=>∃ v,e=.returned v∧Q v w'.heap∧cO w w'
def Hg (k:Value->Prop):Next->Prop
 | .value v=>k v
 | _=>False
def kd (P:Program) (t:TypeId):Nat:=((P.info? t).map (·.size)).getD 0
def Ik (P:Program) (t:TypeId):Bool :=
 match P.underlying t with
 | some (.struct _) | some (.array _ _) | none=>false
 | some _=>decide ((P.info? t).map (·.size)=some 1)
def jS (base:Option Addr) (cap:Nat) (l:Int) (size:Nat):Option Addr:=if cap=l.toNat then base else base.map (·.add (l.toNat*size))
def ox (k:IntKind) (x y:Int):Int:=k.wrap (BitVec.ofInt k.bits x &&& BitVec.ofInt k.bits y).toNat
def xG (k:IntKind) (x y:Int):Int:=k.wrap (BitVec.ofInt k.bits x ||| BitVec.ofInt k.bits y).toNat
def IC (k:IntKind) (x y:Int):Int:=k.wrap (BitVec.ofInt k.bits x ^^^ BitVec.ofInt k.bits y).toNat
def lQ (k:IntKind) (x y:Int):Int:=k.wrap (BitVec.ofInt k.bits x &&& ~~~(BitVec.ofInt k.bits y)).toNat
def gQ (k:IntKind) (x y:Int):Int:=k.wrap (x*2 ^ (min y.toNat k.bits))
def jR (k:IntKind) (x y:Int):Int:=x.fdiv (2 ^ (min y.toNat k.bits))
def iF (x y:ByteArray):Bool:=x.toList == y.toList
def iy (P:Program) (o:Oper) (ρ:Operand->Value) (k:Value->Prop):Prop :=
 match o.op with
 | .pick c x y =>
  match ρ c with
  | .bool b=>cond b (k (ρ x)) (k (ρ y))
  | _=>False
 | .nilCheck x =>
  match ρ x with
  | .pointer p=>∃ ad,p=some ad∧k (.pointer (some ad))
  | _=>ET P (execOp ρ o) (Hg k)
 | .indexAddr t x i =>
  match P.underlying t,ρ x,ρ i with
  | some (.slice e),.slice base len _,.int _ i =>
   match (P.info? e).isSome with
   | true=>(0<=i∧i<len)∧∃ b,base=some b∧k (.pointer (some (b.add (i.toNat*kd P e))))
   | false=>False
  | some (.array len e),.pointer (some b),.int _ i =>
   match (P.info? e).isSome with
   | true=>(0<=i∧i<(len:Int))∧k (.pointer (some (b.add (i.toNat*kd P e))))
   | false=>False
  | _,_,_=>False
 | .index t x i =>
  match P.underlying t,ρ x,ρ i with
  | some .string,.string s,.int _ i=>∃ b:UInt8,(0<=i∧s[i.toNat]?=some b)∧k (.int .u8 b.toNat)
  | some (.array len e),.agg cs,.int _ i =>
   match Ik P e with
   | true=>(0<=i∧i<(len:Int))∧pI (P.underlying e) fun v=>cs[i.toNat]?=some v∧k v
   | false=>ET P (execOp ρ o) (Hg k)
  | _,_,_=>False
 | .slice t x lo (some hi) (some mx) =>
  match P.underlying t,ρ x,ρ hi,ρ mx with
  | some (.slice e),.slice base _ cap,.int _ h,.int _ m =>
   match (P.info? e).isSome with
   | true =>
    match lo.map ρ with
    | none=>(((0<=m∧m<=(cap:Int))∧0<=h∧h<=m))∧k (.slice base h.toNat m.toNat)
    | some (.int _ l)=>(((0<=m∧m<=(cap:Int))∧0<=h∧h<=m)∧0<=l∧l<=h)∧k (.slice (jS base m.toNat l (kd P e)) (h.toNat-l.toNat) (m.toNat-l.toNat))
    | _=>False
   | false=>False
  | _,_,_,_=>False
 | .slice t x lo hi none =>
  match P.underlying t,ρ x with
  | some (.slice e),.slice base len cap =>
   match (P.info? e).isSome with
   | true =>
    match lo.map ρ,hi.map ρ with
    | none,none=>k (.slice base len cap)
    | none,some (.int _ h)=>(0<=h∧h<=(cap:Int))∧k (.slice base h.toNat cap)
    | some (.int _ l),none=>(0<=l∧l<=(len:Int))∧k (.slice (jS base cap l (kd P e)) (len-l.toNat) (cap-l.toNat))
    | some (.int _ l),some (.int _ h)=>((0<=h∧h<=(cap:Int))∧0<=l∧l<=h)∧k (.slice (jS base cap l (kd P e)) (h.toNat-l.toNat) (cap-l.toNat))
    | _,_=>False
   | false=>False
  | some .string,.string s =>
   match lo.map ρ,hi.map ρ with
   | none,none=>k (.string (s.extract 0 s.size))
   | none,some (.int _ h)=>(0<=h∧h<=(s.size:Int))∧k (.string (s.extract 0 h.toNat))
   | some (.int _ l),none=>(0<=l∧l<=(s.size:Int))∧k (.string (s.extract l.toNat s.size))
   | some (.int _ l),some (.int _ h)=>((0<=h∧h<=(s.size:Int))∧0<=l∧l<=h)∧k (.string (s.extract l.toNat h.toNat))
   | _,_=>False
  | _,_=>False
 | .binOp op t x y _ =>
  match op,P.underlying t,ρ x,ρ y with
  | .eql,some (.pointer _),.pointer p,.pointer none=>k (.bool p.isNone)
  | .neq,some (.pointer _),.pointer p,.pointer none=>k (.bool (!p.isNone))
  | .eql,some (.slice _),.slice p _ _,.slice none _ _=>k (.bool p.isNone)
  | .neq,some (.slice _),.slice p _ _,.slice none _ _=>k (.bool (!p.isNone))
  | .eql,some (.map _ _),.map p,.map none=>k (.bool p.isNone)
  | .neq,some (.map _ _),.map p,.map none=>k (.bool (!p.isNone))
  | .quo,_,.int κ x,.int κ' y=>match decide (κ=κ') with
   | true=>cond (decide (y=0)) False (k (.int κ (κ.wrap (x.tdiv y))))
   | false=>False
  | .rem,_,.int κ x,.int κ' y=>match decide (κ=κ') with
   | true=>cond (decide (y=0)) False (k (.int κ (x.tmod y)))
   | false=>False
  | .shl,_,.int κ x,.int _ y=>cond (decide (y<0)) False (k (.int κ (gQ κ x y)))
  | .shr,_,.int κ x,.int _ y=>cond (decide (y<0)) False (k (.int κ (jR κ x y)))
  | .add,_,.string x,.string y=>cond (decide (((x.size+y.size:Nat):Int) > IntKind.i64.max)) False (k (.string (x++y)))
  | _,_,_,_=>ET P (execOp ρ o) (Hg k)
 | _=>ET P (execOp ρ o) (Hg k)
def vM (P:Program) (o:Oper):Bool :=
 match o.op with
 | .move _ | .assign _ | .pick .. | .build .. | .nilCheck _ | .unOp .. | .makeInterface .. | .makeFunc .. | .slice .. | .fieldAddr .. | .field .. | .indexAddr .. | .index .. | .extract ..=>true
 | .binOp op t x y _ =>
  match P.underlying t with
  | some (.pointer _)=>(match y with | .const (.pointer none)=>true | _=>false)
  | some (.interface _) | some (.struct _) | some (.array _ _)=>false
  | _=>(match op,x with | _,_=>true)
 | .convert src dst _ =>
  match P.underlying src,P.underlying dst with
  | some (.slice _),some (.slice _)=>false
  | some (.slice _),_=>false
  | some .string,some (.slice _)=>false
  | _,_=>true
 | .call c =>
  match c.callee with
  | .builtin .len | .builtin .cap =>
   (match (c.argTypes[0]?).bind P.underlying with
    | some .string | some (.slice _) | some (.array _ _)=>true
    | _=>false)
  | .builtin .min | .builtin .max=>true
  | _=>false
 | _=>false
def Ic (v:Value) (k:Value->Prop):Prop:=(v=.tuple #[.bool false]∧k (.tuple #[.bool false]))∨∃ x y:Value,v=.tuple #[.bool true,x,y]∧k (.tuple #[.bool true,x,y])
def uX (P:Program) (o:Oper) (ρ:Operand->Value) (k:Value->ag->Prop) (H:ag):Prop :=
 match vM P o with
 | true=>iy P o ρ fun v=>k v H
 | false =>
  match o.op with
  | .load t x =>
   match ρ x with
   | .pointer (some ad)=>oV P t ad H fun v _=>k v H
   | _=>False
  | .store t x v =>
   match ρ x with
   | .pointer (some ad)=>sm P t ad (ρ v) (k undef) H
   | _=>False
  | .alloc e =>
   match (P.info? e).bind (·.zero) with
   | some z=>k (.pointer (some ⟨H.size,0,none⟩)) (H.push (.cells z.cells e))
   | none=>False
  | .box e x=>k (.pointer (some ⟨H.size,0,none⟩)) (H.push (.cells (ρ x).cells e))
  | .buildSlice t len parts=>cu P (Instr.buildSlice t len (parts.map fun (i,x)=>(i,ρ x))) k H
  | .makeMap _ none=>k (.map (some H.size)) (H.push (.map #[] 0))
  | .makeSlice t l c=>cu P (Instr.makeSlice t (ρ l) (ρ c)) (fun v H'=>xM P o.type v fun x=>k x H') H
  | .lookup t m key ok=>cu P (Instr.lookup t (ρ m) (ρ key) ok) (fun v H'=>xM P o.type v fun x=>k x H') H
  | .mapUpdate t m key x=>cu P (Instr.mapUpdate t (ρ m) (ρ key) (ρ x)) (fun _ H'=>k undef H') H
  | .insert t m key x=>cu P (Instr.mapUpdate t (ρ m) (ρ key) (ρ x)) (fun _ H'=>k undef H') H
  | .mapEntry t m key=>cu P (Instr.mapEntry t (ρ m) (ρ key)) (fun v H'=>k v H') H
  | .entryStore t m s x=>cu P (Instr.entryStore t (ρ m) (ρ s) (ρ x)) (fun _ H'=>k undef H') H
  | .range t x=>cu P (Instr.range t (ρ x)) k H
  | .next it s=>cu P (Instr.next (ρ it) s o.type) (fun v H'=>Ic v fun x=>k x H') H
  | .convert src dst x=>cu P (convert src dst (ρ x)) (fun v H'=>xM P o.type v fun x=>k x H') H
  | .binOp op t x y _=>cu P (do eqGuard op t x y (ρ x) (ρ y);binOp op t (ρ x) (ρ y)) (fun v H'=>xM P o.type v fun x=>k x H') H
  | .call c =>
   match c.callee with
   | .value f =>
    match ρ f with
    | .func (.func g) first cap=>ae P g ((first++c.args.map ρ)++cap) (fun v H'=>xM P o.type v fun x=>k x H') H
    | _=>False
   | .builtin .append=>cu P (Builtin.append_ c.argTypes o.type (c.args.map ρ)) (fun v H'=>xM P o.type v fun x=>k x H') H
   | .builtin .copy=>cu P (Builtin.copy_ c.argTypes o.type (c.args.map ρ)) (fun v H'=>xM P o.type v fun x=>k x H') H
   | .builtin .clear=>cu P (Builtin.clear_ c.argTypes o.type (c.args.map ρ)) k H
   | .builtin .delete=>cu P (Builtin.delete_ c.argTypes o.type (c.args.map ρ)) k H
   | .builtin .len=>cu P (Builtin.len_ c.argTypes o.type (c.args.map ρ)) (fun v H'=>xM P o.type v fun x=>k x H') H
   | .builtin .unsafeSliceData=>cu P (Builtin.unsafeSliceData_ c.argTypes o.type (c.args.map ρ)) (fun v H'=>xM P o.type v fun x=>k x H') H
   | .builtin .unsafeString=>cu P (Builtin.unsafeString_ c.argTypes o.type (c.args.map ρ)) (fun v H'=>xM P o.type v fun x=>k x H') H
   | _=>False
  | _=>False
def mq (ops:Array Oper) (o:Oper) (a:Act) (yes no:Act->Prop):Prop :=
 match o.guard with
 | none=>yes a
 | some (j,want) =>
  match (ops[j]?).bind (·.dst) with
  | none=>no a
  | some d =>
   match a.tmps[d]? with
   | some (.bool b) =>
    cond b (match want with | true=>yes (a.put (some d) (.bool true)) | false=>no (a.put (some d) (.bool true)))
     (match want with | true=>no (a.put (some d) (.bool false)) | false=>yes (a.put (some d) (.bool false)))
   | some (.tuple _)=>no a
   | none=>no a
   | _=>False
def iT (P:Program) (l:Nat) (args:Array Value) (Q:Value->ag->Prop) (H:ag):Prop :=
 ∀ w:World,w.heap=H->∃ fn tmps assign body,(Instr.yield l args).run P w=.ok (.round l fn tmps assign body) w ∧
  RoundIn Fence.wide 0 P l fn tmps assign body w fun e w'=>∃ v,e=.returned v∧Q v w'.heap∧cO w w'
def E3 (ops:Array Oper) (d:Option Tmp) (i:Nat):Option TypeId :=
 (ops.toList.find? fun q=>match q.op with
  | .extract (.tmp t) j=>decide (some t=d) && decide (j=i)
  | _=>false).map (·.type)
def Ff (P:Program) (t:Option TypeId) (k:Value->Prop):Prop :=
 match t with
 | some t=>Hi P t k
 | none=>∃ v:Value,k v
def vI (P:Program) (ops:Array Oper) (o:Oper) (a:Act) (k:Act->ag->Prop) (H:ag):Prop :=
 match o.op with
 | .defer c =>
  match c.callee with
  | .value f =>
   match a.eval f with
   | .func (.func g) first cap=>k ({ a with defers:=⟨.fn (.func g) cap,first++c.args.map a.eval⟩ :: a.defers }.put o.dst undef) H
   | _=>False
  | _=>False
 | .entry it=>cu P (Instr.entry (a.eval it)) (fun v H'=>Ff P (E3 ops o.dst 0) fun x=>Ff P (E3 ops o.dst 1) fun y=>v=.tuple #[x,y]∧k (a.put o.dst (.tuple #[x,y])) H') H
 | .call c =>
  match c.callee with
  | .value f =>
   match a.eval f with
   | .func (.yield l) first _=>iT P l (first++c.args.map a.eval) (fun v H'=>xM P o.type v fun x=>k (a.put o.dst x) H') H
   | _=>uX P o a.eval (fun v H'=>k (a.put o.dst v) H') H
  | _=>uX P o a.eval (fun v H'=>k (a.put o.dst v) H') H
 | _=>uX P o a.eval (fun v H'=>k (a.put o.dst v) H') H
def xd (P:Program) (ops:Array Oper) (Q:Act->ag->Prop):List Oper->Act->ag->Prop
 | [],a,H=>Q a H
 | o :: rest,a,H =>
  mq ops o a (fun a=>vI P ops o a (fun a' H'=>xd P ops Q rest a' H') H) (fun a=>xd P ops Q rest (a.put o.dst undef) H)
def lS (ops:Array Oper) (i:Nat):List Nat :=
 match ops[i]? with
 | some o=>(o.after.toList.filter (Region.binds .any)).map (·.on)
 | none=>[]
def xv (ops:Array Oper):Nat->List Nat->List Nat
 | 0,acc=>acc
 | p+1,acc=>xv ops p (if acc.contains p then lS ops p++acc else acc)
def HZ (ops:Array Oper) (i:Nat):List Nat:=xv ops i (lS ops i)
def iP:List (Addr × Value)->ag->Prop
 | [],_=>True
 | (a,v) :: r,H=>aq H a=some v∧iP r H
def Holds:List (Nat × List (Addr × Value))->ag->Prop
 | [],_=>True
 | (_,l) :: r,H=>iP l H∧Holds r H
def nC (ops:Array Oper) (i:Nat) (cj:List (Nat × List (Addr × Value))):List (Nat × List (Addr × Value)):=cj.filter fun h=>!(HZ ops i).contains h.1
def BB (P:Program) (o:Oper):Bool:=vM P o || (match o.op with | .load ..=>true | _=>false)
def wK:List Nat->(Nat->Prop)->Prop
 | [],_=>True
 | [i],p=>p i
 | i :: r,p=>p i∧wK r p
def B4 (P:Program) (ops:Array Oper) (listed:Array Bool):Option Nat :=
 (Region.ready .any ops listed).find? fun i=>((ops[i]?).map (BB P)).getD false
def ip (P:Program) (ops:Array Oper) (Q:Act->ag->Prop):Nat->Array Bool->List (Nat × List (Addr × Value))->Act->ag->Prop
 | 0,listed,_,a,H=>match (Region.ready .any ops listed).isEmpty with
  | true=>Q a H
  | false=>False
 | n+1,listed,cj,a,H =>
  match B4 P ops listed with
  | some i =>
   match Region.free .any ops listed i,ops[i]? with
   | true,some o =>
    mq ops o a
     (fun a =>
      match vM P o with
      | true=>iy P o a.eval fun v=>ip P ops Q n (listed.setIfInBounds i true) cj (a.put o.dst v) H
      | false =>
       match o.op with
       | .load t x =>
        match a.eval x with
        | .pointer (some ad)=>oV P t ad H fun v cs=>ip P ops Q n (listed.setIfInBounds i true) ((i,cs) :: cj) (a.put o.dst v) H
        | _=>False
       | _=>False)
     (fun a=>ip P ops Q n (listed.setIfInBounds i true) cj (a.put o.dst undef) H)
   | _,_=>False
  | none =>
   match Region.ready .any ops listed with
   | []=>Q a H
   | rs=>wK rs fun i =>
    match ops[i]? with
    | some o =>
     mq ops o a
      (fun a=>uX P o a.eval (fun v H'=>Holds (nC ops i cj) H'∧ip P ops Q n (listed.setIfInBounds i true) (nC ops i cj) (a.put o.dst v) H') H)
      (fun a=>ip P ops Q n (listed.setIfInBounds i true) (nC ops i cj) (a.put o.dst undef) H)
    | none=>False
def jE:Code->Nat
 | .region id _ _=>id
 | .seq a b=>(match a with | .skip=>jE b | _=>jE a)
 | .cond _ a _=>jE a
 | .block _ b=>jE b
 | .loop b=>jE b
 | _=>1000000
def dO:Code->List Nat
 | .region _ ops _=>ops.toList.filterMap (·.dst)
 | .seq a b=>dO a++dO b
 | .cond _ a b=>dO a++dO b
 | .block _ b=>dO b
 | .loop b=>dO b
 | _=>[]
def fT (o:Oper):Bool:=match o.op with | .defer _=>true | _=>false
def cd:Code->Bool
 | .region _ ops _=>ops.toList.all fun o=>!fT o
 | .seq a b=>cd a && cd b
 | .cond _ a b=>cd a && cd b
 | .block _ b=>cd b
 | .loop b=>cd b
 | .rangeFunc ..=>true
 | .skip | .label _ | .exit _ | .ret=>true
 | _=>false
def dI:Code->Bool
 | .region _ _ draw=>!draw
 | .seq a b=>dI a && dI b
 | .cond _ a b=>dI a && dI b
 | .block _ b=>dI b
 | .loop b=>dI b
 | .skip | .label _ | .exit _ | .ret=>true
 | _=>false
def cI:Code->Bool
 | .region ..=>true
 | .seq a b=>cI a && cI b
 | .cond _ a b=>cI a && cI b
 | .block _ b=>cI b
 | .loop b=>cI b
 | .skip | .label _ | .exit _ | .ret=>true
 | _=>false
def tu (a:Act) (ws:List Nat) (g:Nat->Value):Act:=ws.foldl (fun a i=>a.put (some i) (g i)) a
def ss (P:Program):List (Nat × TypeId)->(List (Nat × Value)->Prop)->Prop
 | [],k=>k []
 | (t,ty) :: r,k=>Hi P ty fun v=>ss P r fun ps=>k ((t,v) :: ps)
def oZ (a:Act) (ps:List (Nat × Value)):Act:=ps.foldl (fun a p=>a.put (some p.1) p.2) a
def eW (a:Act) (L:List (Nat × TypeId)):List Value:=L.map fun p=>a.tmps.getD p.1 undef
abbrev pm:=Exit->Act->ag->Prop
def Ag (K:Act->ag->Prop) (Q:pm):pm
 | .normal,a,H=>K a H
 | e,a,H=>Q e a H
def uL (id:Nat) (Q:pm):pm
 | .exit id',a,H=>match decide (id'=id) with
  | true=>Q .normal a H
  | false=>Q (.exit id') a H
 | e,a,H=>Q e a H
abbrev wa:=Nat->Option (List (Nat × TypeId))
def qe (P:Program) (ws:List Nat) (L:List (Nat × TypeId)) (a:Act) (K:Act->ag->Prop) (vs:List Value) (H:ag):Prop :=
 ∀ g:Nat->Value,ss P L fun ps=>vs=ps.map (·.2)∧K (oZ (tu a ws g) ps) H
def kL (fn:FuncId) (tmps:Array Value) (ps:Array Tmp) (assign body:Code) (D:Nat):Loop:={ state:=.ready,pending:=none,fn,tmps,params:=ps,assign,body,defers:=D }
def xO:List (Nat × (ag->Prop))->Nat->ag->Prop
 | [],_,_=>False
 | (i,K) :: r,id,H=>match decide (id=i) with
  | true=>K H
  | false=>xO r id H
def gA:Code->List Nat
 | .seq a b=>gA a++gA b
 | .cond _ a b=>gA a++gA b
 | .block i b=>(gA b).filter (· != i)
 | .loop b=>gA b
 | .exit i=>[i]
 | _=>[]
def oY (l:Nat) (Kn Kr:ag->Prop) (Ke:List (Nat × (ag->Prop))) (H2:ag):Prop :=
 ∃ r:Loop,H2[l]?=some (.loop r)∧r.state≠.busy ∧
  match r.pending with
  | none=>Kn (H2.setIfInBounds l (.loop { r with state:=.exhausted }))
  | some .ret=>Kr (H2.setIfInBounds l (.loop { r with state:=.exhausted }))
  | some (.exit id)=>xO Ke id (H2.setIfInBounds l (.loop { r with state:=.exhausted }))
  | _=>False
def ir:Code->List (Array Tmp × Code × Code)
 | .seq a b=>ir a++ir b
 | .cond _ a b=>ir a++ir b
 | .block _ b=>ir b
 | .loop b=>ir b
 | .rangeFunc _ ps a b=>[(ps,a,b)]
 | _=>[]
def oH (P:Program) (f:FuncId) (k:Nat):Array Tmp × Code × Code :=
 match (P.funcs[f]?).bind (·.body) with
 | some c=>(ir c).getD k (#[],.skip,.skip)
 | none=>(#[],.skip,.skip)
def Ac (l:Nat) (Q:Value->ag->Prop):pm
 | .normal,_,H=>∃ r:Loop,H[l]?=some (.loop r)∧Q (.bool true) (H.setIfInBounds l (.loop { r with state:=.ready,pending:=none }))
 | .ret,_,H=>∃ r:Loop,H[l]?=some (.loop r)∧Q (.bool false) (H.setIfInBounds l (.loop { r with state:=.done,pending:=some .ret }))
 | .exit id,_,H=>∃ r:Loop,H[l]?=some (.loop r)∧Q (.bool false) (H.setIfInBounds l (.loop { r with state:=.done,pending:=some (.exit id) }))
 | _,_,_=>False
def zZ (l:Nat) (K:Act->ag->Prop):pm
 | .normal,a,H=>∃ r:Loop,H[l]?=some (.loop r)∧r.state=.ready∧K a (H.setIfInBounds l (.loop { r with state:=.busy }))
 | _,_,_=>False
def ev (P:Program) (Ls:wa):Code->pm->Act->ag->Prop
 | .skip,Q,a,H=>Q .normal a H
 | .label _,Q,a,H=>Q .normal a H
 | .region _ ops draw,Q,a,H =>
  match draw with
  | false=>xd P ops (Q .normal) ops.toList a H
  | true =>
   match Region.noSelect ops with
   | true=>ip P ops (Q .normal) ops.size (Array.replicate ops.size false) [] a H
   | false=>False
 | .seq x y,Q,a,H =>
  match Ls (1000+jE y) with
  | none=>ev P Ls x (Ag (ev P Ls y Q) Q) a H
  | some L =>
   match cd x with
   | true=>∃ J:List Value->ag->Prop,ev P Ls x (Ag (fun a' H'=>J (eW a' L) H') Q) a H ∧
    ∀ vs H',J vs H'->qe P (dO x) L a (ev P Ls y Q) vs H'
   | false=>False
 | .cond c x y,Q,a,H =>
  match a.eval c with
  | .bool b =>
   match c with
   | .tmp t=>cond b (ev P Ls x Q (a.put (some t) (.bool true)) H) (ev P Ls y Q (a.put (some t) (.bool false)) H)
   | _=>cond b (ev P Ls x Q a H) (ev P Ls y Q a H)
  | _=>False
 | .block id b,Q,a,H=>ev P Ls b (uL id Q) a H
 | .loop b,Q,a,H =>
  match Ls (jE b) with
  | none=>False
  | some L =>
   match cd b with
   | true=>∃(I:List Value->ag->Prop) (μ:List Value->ag->Nat),I (eW a L) H ∧
    ∀ vs H',I vs H'->qe P (dO b) L a (ev P Ls b (Ag (fun a' H''=>I (eW a' L) H''∧μ (eW a' L) H''<μ vs H') Q)) vs H'
   | false=>False
 | .exit id,Q,a,H=>Q (.exit id) a H
 | .ret,Q,a,H=>Q .ret a H
 | .rangeFunc g ps assign body,Q,a,H =>
  match a.eval g with
  | .func (.func gf) first lb=>∀ fn:FuncId,ae P gf ((first++#[.func (.yield (H.size+1)) #[] #[]])++lb) (fun _ H2=>oY (H.size+1) (Q .normal a) (Q .ret a) ((gA body).map fun i=>(i,Q (.exit i) a)) H2)
    ((H.push (.deferred (some []))).push (.loop (kL fn a.tmps ps assign body H.size)))
  | _=>False
 | .scope _,_,_,_=>False
 | .goto _,_,_,_=>False
 | .refuse _,_,_,_=>False
def qA (P:Program) (a:Act) (H:ag):List ResultVar->(List Value->Prop)->Prop
 | [],k=>k []
 | .tmp t :: r,k=>qA P a H r fun vs=>k (a.tmps.getD t undef :: vs)
 | .cell x t :: r,k =>
  match a.tmps.getD x undef with
  | .pointer (some ad)=>oV P t ad H fun v _=>qA P a H r fun vs=>k (v :: vs)
  | _=>False
def I0 (P:Program) (fn:Func) (Q:Value->ag->Prop):pm
 | .normal,a,H | .ret,a,H=>qA P a H fn.results.toList fun vs=>match vs with
  | [v]=>Q v H
  | vs=>Q (.tuple vs.toArray) H
 | _,_,_=>False
def wF (P:Program) (f:FuncId) (args:Array Value) (Q:ag->Prop) (H:ag):Prop :=
 (∃ fn,P.funcs[f]?=some fn∧fn.body.isSome=true) ∧
 ∀ (w:World) (u:FrameMode),w.heap=H->CallsDIn Fence.wide 0 P f args u w fun e u' w'=>u'=u∧(∃ v,e=.returned v)∧Q w'.heap∧cO w w'
def ku (n:Nat) (H H':ag):Prop:=H'.size=H.size∧∀ b,H'[b]?=H[b]?∨(n<=b∧H[b]?=some (.deferred (some []))∧H'[b]?=some (.deferred none))
def jp (P:Program) (fn:Func) (m:Bool) (n:Nat) (tmps:Array Value) (Q:Value->ag->Prop):List Deferred->ag->Prop
 | [],H =>
  match m with
  | true=>∀ H',ku n H H'->qA P ⟨tmps,[]⟩ H' fn.results.toList fun vs=>match vs with
   | [v]=>Q v H'
   | vs=>Q (.tuple vs.toArray) H'
  | false=>qA P ⟨tmps,[]⟩ H fn.results.toList fun vs=>match vs with
   | [v]=>Q v H
   | vs=>Q (.tuple vs.toArray) H
 | d :: ds,H =>
  match d.target with
  | .fn (.func g) cap =>
   match m with
   | true=>∀ H',ku n H H'->wF P g (d.args++cap) (fun H''=>jp P fn m n tmps Q ds H'') H'
   | false=>wF P g (d.args++cap) (fun H''=>jp P fn m n tmps Q ds H'') H
  | _=>False
def Kg (P:Program) (fn:Func) (m:Bool) (n:Nat) (Q:Value->ag->Prop):pm
 | .normal,a,H | .ret,a,H=>jp P fn m n a.tmps Q a.defers H
 | _,_,_=>False
def mL (fn:Func) (args:Array Value):Act:={ tmps:=args++Array.replicate (fn.ntmps-args.size) undef,defers:=[] }
structure GoodPg (P:Program):Prop where
 mixed:P.follows .mixedOrders=true
 names : P.funcs.all (fun fn => fn.name != "runtime.NumGoroutine") = true
theorem dg.refl (H:ag):dg H H:=⟨UI _,fun _ _ h=>h⟩
theorem dg.trans {H H' H'':ag} (h:dg H H') (h':dg H' H''):dg H H'':=⟨Ux h.1 h'.1,fun b ds hb=>h'.2 b ds (h.2 b ds hb)⟩
theorem dg.push (H:ag) (o:Obj):dg H (H.push o):=⟨by simp,fun b ds hb=>by
 have aa:b<H.size:=(UN.1 hb).1;rw [VS,Uq (by omega)];exact hb⟩
theorem dg.set (H:ag) (a:Addr) (v:Value):dg H (bc H a v):=⟨by simp [bc],fun b ds hb=>by
 unfold bc;rw [U2];split
 ·rw [hb];rfl
 ·exact hb⟩
theorem dg.freeze (H:ag) (a:Addr) (n:Nat):dg H (eG H a n):=⟨by unfold eG;split <;> simp,fun b ds hb=>by
 unfold eG;split
 ·exact hb
 ·rw [U2];split
  ·rw [hb];rfl
  ·exact hb⟩
theorem dg.setObj {H:ag}{r:Nat}{o o':Obj} (h1:H[r]?=some o') (h2:∀ ds,o'≠.deferred ds):dg H (H.setIfInBounds r o):=⟨by simp,fun b ds hb=>by
 have b9:r≠b:=fun e=>by subst e;rw [h1] at hb;exact h2 ds (Option.some.inj hb)
 rw [Vk b9];exact hb⟩
theorem cO.refl (w:World):cO w w:=⟨rfl,rfl,rfl,UI _,dg.refl _⟩
theorem cO.trans {w w' w'':World} (h:cO w w') (h':cO w' w''):cO w w'':=⟨h'.1.trans h.1,h'.2.1.trans h.2.1,h'.2.2.1.trans h.2.2.1,Ux h.2.2.2.1 h'.2.2.2.1,h.2.2.2.2.trans h'.2.2.2.2⟩
theorem cO.heap {w:World}{H':ag} (h:dg w.heap H'):cO w { w with heap:=H' }:=⟨rfl,rfl,rfl,UI _,h⟩
theorem mR (P:Program){α:Type} (m:Sem α):∀ (Q:α->ag->Prop) (w:World),cu P m Q w.heap->∃ a w',m.run P w=.ok a w'∧Q a w'.heap∧cO w w':=by
 induction m with
 | pure a=>exact fun Q w h=>⟨a,w,rfl,h,cO.refl w⟩
 | load m a k ih =>
  rintro Q w ⟨v,hv,h⟩;obtain ⟨b,w',hr,hq⟩:=ih v Q w h;exact ⟨b,w',by simp only [Sem.run,show w.cell? a=some v from hv];exact hr,hq⟩
 | store m a v k ih =>
  rintro Q w ⟨h1,⟨⟨v0,h2⟩,h3⟩,h⟩;obtain ⟨b,w',hr,hq,hs⟩:=ih Q (w.setCell a v) h;refine ⟨b,w',?_,hq,(cO.heap (w:=w) (dg.set w.heap a v)).trans hs⟩;have e2:w.cell? a=some v0:=h2;have e3:w.frozen? a=false:=h3;cases v <;> simp only [ge,U9] at h1 <;> simp only [Sem.run,e2,e3,U9,if_false] <;> exact hr
 | new o k ih =>
  intro Q w h;obtain ⟨b,w',hr,hq,hs⟩:=ih w.heap.size Q { w with heap:=w.heap.push o } h;exact ⟨b,w',hr,hq,(cO.heap (w:=w) (dg.push w.heap o)).trans hs⟩
 | shape r k ih=>exact fun Q w h=>ih _ Q w h
 | freeze a n k ih =>
  intro Q w h;have hh:(w.freeze a n).heap=eG w.heap a n:=by unfold World.freeze eG;split <;> rfl
  have w5:cO w (w.freeze a n):=⟨by unfold World.freeze;split <;> rfl,by unfold World.freeze;split <;> rfl,by unfold World.freeze;split <;> rfl,by unfold World.freeze;split <;> exact UI _,by rw [hh];exact dg.freeze _ _ _⟩;obtain ⟨b,w',hr,hq,hs⟩:=ih Q (w.freeze a n) (by rw [hh];exact h);exact ⟨b,w',hr,hq,w5.trans hs⟩
 | frozen a k ih=>exact fun Q w h=>ih _ Q w h
 | getObj r k ih =>
  rintro Q w ⟨o,h1,h2,h⟩;obtain ⟨b,w',hr,hq⟩:=ih o Q w h;refine ⟨b,w',?_,hq⟩;cases o <;> simp only [dA,Bool.true_eq_false] at h2 <;> simp only [Sem.run,h1] <;> exact hr
 | setObj r o k ih =>
  rintro Q w ⟨⟨o',h1,h2⟩,h⟩;obtain ⟨b,w',hr,hq,hs⟩:=ih Q { w with heap:=w.heap.setIfInBounds r o } h;refine ⟨b,w',?_,hq,(cO.heap (w:=w) (dg.setObj h1 fun ds e=>by rw [e] at h2;cases h2)).trans hs⟩;cases o' <;> simp only [dA,Bool.true_eq_false] at h2 <;> simp only [Sem.run,h1] <;> exact hr
 | choose q k ih =>
  intro Q w h;simp only [cu] at h;split at h
  ·rename_i hf;obtain ⟨b,w',hr,hq⟩:=ih 0 Q w h;exact ⟨b,w',by simp only [Sem.run,hf,if_true];exact hr,hq⟩
  ·rename_i hf;obtain ⟨b,w',hr,hq,hs⟩:=ih _ Q { w with drawn:=w.drawn+1 } (h (w.tape w.drawn q));exact ⟨b,w',by simp only [Sem.run,hf];exact hr,hq,hs.1,hs.2.1,hs.2.2.1,Ux (VO _) hs.2.2.2.1,hs.2.2.2.2⟩
 | sys c k ih=>exact fun Q w h=>h.elim
 | program k ih=>exact fun Q w h=>ih P Q w h
 | mark m k ih=>exact fun Q w h=>ih Q w h
 | halt h=>exact fun Q w h=>h.elim
theorem yU (P:Program){α:Type} (m:Sem α):∀ (k:α->Prop),ET P m k->∃ a,k a∧∀ w,m.run P w=.ok a w:=by
 induction m with
 | pure a=>exact fun k h=>⟨a,h,fun _=>rfl⟩
 | program c ih=>exact fun k h=>ih P k h
 | mark m c ih=>exact fun k h=>ih k h
 | _=>exact fun k h=>h.elim
theorem kj {d:Option TypeDesc}{k:Value->Prop} (h:pI d k):∃ v,k v:=by
 unfold pI at h;split at h
 ·obtain ⟨_,h⟩:=h;exact ⟨_,h⟩
 ·obtain ⟨_,h⟩:=h;exact ⟨_,h⟩
 ·obtain ⟨_,h⟩:=h;exact ⟨_,h⟩
 ·obtain ⟨_,h⟩:=h;exact ⟨_,h⟩
 ·obtain ⟨_,_,_,h⟩:=h;exact ⟨_,h⟩
 ·obtain ⟨_,h⟩:=h;exact ⟨_,h⟩
 ·obtain ⟨_,_,_,h⟩:=h;exact ⟨_,h⟩
 ·exact h
theorem jJ {d:Option TypeDesc}{k:Value->Prop} (h:lU d k):∃ v,k v:=by
 unfold lU at h;split at h
 ·rcases h with ⟨f,g,c,h⟩ | h
  ·exact ⟨_,h⟩
  ·exact ⟨_,h⟩
 ·exact kj h
theorem pZ:∀ {l:List (Option TypeDesc)}{k:List Value->Prop},IX l k->∃ vs,k vs
 | [],_,h=>⟨[],h⟩
 | _ :: _,_,h=>let ⟨_,h⟩:=jJ h;let ⟨_,h⟩:=pZ h;⟨_,h⟩
theorem mD {P:Program}{t:TypeId}{k:Value->Prop} (h:Hi P t k):∃ v,k v:=by
 unfold Hi at h;split at h
 ·obtain ⟨_,h⟩:=pZ h;exact ⟨_,h⟩
 ·obtain ⟨_,h⟩:=pZ h;exact ⟨_,h⟩
 ·exact kj h
theorem rT {P:Program}:∀ {l:List TypeId}{k:List Value->Prop},Hd P l k->∃ vs,k vs
 | [],_,h=>⟨[],h⟩
 | _ :: _,_,h=>let ⟨_,h⟩:=mD h;let ⟨_,h⟩:=rT h;⟨_,h⟩
theorem tF {P:Program}{t:TypeId}{v:Value}{k:Value->Prop} (h:xM P t v k):k v:=by
 unfold xM at h;split at h
 ·obtain ⟨vs,hv,hk⟩:=rT h;rw [hv];exact hk
 ·obtain ⟨x,hv,hk⟩:=mD h;rw [hv];exact hk
theorem pn {H:ag}{ad:Addr}:∀ {l:List (Option TypeDesc)}{i:Nat}{k:List Value->List (Addr × Value)->Prop},wY H ad i l k ->
  ∃ vs cs,k vs cs∧vs.length=l.length∧iP cs H∧∀ H',iP cs H'->∀ j v,vs[j]?=some v->aq H' (ad.add (i+j))=some v
 | [],_,_,h=>⟨[],[],h,rfl,trivial,fun _ _ j v hv=>by simp at hv⟩
 | d :: r,i,k,h=>by
  obtain ⟨v,hv,h⟩:=jJ h;obtain ⟨vs,cs,hk,hl,hc,al⟩:=pn h;refine ⟨_,_,hk,by simp [hl],⟨hv,hc⟩,fun H' ⟨h1,h2⟩ j u hu=>?_⟩;cases j with
  | zero=>simp at hu;subst hu;exact h1
  | succ j=>simp at hu;rw [show i+(j+1)=i+1+j by omega];exact al H' h2 j u hu
theorem mf (P:Program) (a:Addr) (vs:List Value):∀ (i:Nat) (acc:Array Value) (w:World),
  (∀ j v,vs[j]?=some v->w.cell? (a.add (i+j))=some v)->(loadCellsFrom a i vs.length acc).run P w=.ok (acc++vs.toArray) w:=by
 induction vs with
 | nil=>intro i acc w _;simp [loadCellsFrom]
 | cons v r ih =>
  intro i acc w h;have h0:=h 0 v rfl;simp only [US,loadCellsFrom,Sem.run_bind,run_load];rw [show a.add i=a.add (i+0) from rfl,h0];simp only [Result.andThen_ok];rw [ih (i+1) (acc.push v) w (fun j u hu=>by rw [show i+1+j=i+(j+1) by omega];exact h (j+1) u (by simpa using hu))];simp
theorem bf {P:Program}{t:TypeId}{d:TypeDesc} (h:P.underlying t=some d) (w:World):(underlying t).run P w=.ok d w:=by
 simp [underlying,h]
theorem kU {P:Program}{t:TypeId}{i:TypeInfo} (h:P.info? t=some i) (w:World):(typeInfo t).run P w=.ok i w:=by
 simp [typeInfo,h]
theorem cV {P:Program}{t:TypeId}{i:TypeInfo} (h:P.info? t=some i) (w:World):(Go.sizeOf t).run P w=.ok i.size w:=by
 simp [Go.sizeOf,kU h]
theorem kl {P:Program}{t:TypeId}{ad:Addr}{H:ag}{k:Value->List (Addr × Value)->Prop} (h:oV P t ad H k) :
  ∃ v cs,k v cs∧iP cs H∧∀ w:World,iP cs w.heap->(loadVar t ad).run P w=.ok v w:=by
 have agg:∀ (d:TypeDesc),P.underlying t=some d->(match d with | .struct _ | .array _ _=>true | _=>false)=true ->
   (match decide ((P.info? t).map (·.size)=some (um P 20 t).length) with
   | true=>wY H ad 0 (um P 20 t) fun vs cs=>k (.agg vs.toArray) cs
   | false=>False)->∃ v cs,k v cs∧iP cs H∧∀ w:World,iP cs w.heap->(loadVar t ad).run P w=.ok v w:=by
  intro d hd Pc h;split at h
  ·rename_i hs;have hs:=of_decide_eq_true hs;obtain ⟨i,hi,hsz⟩:∃ i,P.info? t=some i∧i.size=(um P 20 t).length:=by
    cases hi:P.info? t with
    | none=>simp [hi] at hs
    | some i=>simp [hi] at hs;exact ⟨i,rfl,hs⟩
   obtain ⟨vs,cs,hk,hl,hc,al⟩:=pn h;refine ⟨_,_,hk,hc,fun w hw=>?_⟩;have Pd:(isAgg t).run P w=.ok true w:=by
    simp only [isAgg,Sem.run_bind,bf hd,Result.andThen_ok];cases d <;> simp at Pc <;> rfl
   simp only [loadVar,Sem.run_bind,Pd,Result.andThen_ok,if_true,cV hi,loadCells];rw [hsz,←hl,mf P ad vs 0 #[] w (fun j v hv=>al w.heap hw j v hv)];simp
  ·exact h.elim
 unfold oV at h;split at h
 ·rename_i fs hd;exact agg _ hd rfl h
 ·rename_i l e hd;exact agg _ hd rfl h
 ·rename_i d Pe Nf;split at h
  ·rename_i d hd;obtain ⟨v,hv,hk⟩:=jJ h;refine ⟨v,_,hk,⟨hv,trivial⟩,fun w hw=>?_⟩;have Pd:(isAgg t).run P w=.ok false w:=by
    simp only [isAgg,Sem.run_bind,bf hd,Result.andThen_ok];cases d with
    | struct fs=>exact absurd hd (by simpa using Pe fs)
    | array l e=>exact absurd hd (by simpa using Nf l e)
    | _=>rfl
   have hc:w.cell? ad=some v:=hw.1;simp [loadVar,Pd,hc]
  ·exact h.elim
theorem ot {P:Program}{ad:Addr}:∀ {vs:List Value}{i:Nat}{k:ag->Prop}{w:World},sv ad i vs k w.heap ->
  ∃ w',(storeCells ad vs i).run P w=.ok () w'∧k w'.heap∧cO w w'
 | [],_,_,w,h=>⟨w,rfl,h,cO.refl w⟩
 | v :: r,i,k,w,h=>by
  simp only [sv] at h;split at h
  ·rename_i h1;obtain ⟨⟨⟨v0,h2⟩,h3⟩,h⟩:=h;obtain ⟨w',hr,hk,hs⟩:=ot (P:=P) (w:=w.setCell (ad.add i) v) h;refine ⟨w',?_,hk,(cO.heap (w:=w) (dg.set w.heap (ad.add i) v)).trans hs⟩;have e2:w.cell? (ad.add i)=some v0:=h2;have e3:w.frozen? (ad.add i)=false:=h3;have e1:(store (ad.add i) v).run P w=.ok () (w.setCell (ad.add i) v):=by
    cases v <;> simp only [ge,U9] at h1 <;> simp only [store,Sem.run,e2,e3,U9,if_false]
   simp only [storeCells,Sem.run_bind,e1,Result.andThen_ok];exact hr
  ·exact h.elim
theorem th {P:Program}{t:TypeId}{ad:Addr}{v:Value}{k:ag->Prop}{w:World} (h:sm P t ad v k w.heap) :
  ∃ w',(storeVar t ad v).run P w=.ok () w'∧k w'.heap∧cO w w':=by
 unfold sm at h;split at h
 ·rename_i hs;have hs:=of_decide_eq_true hs;obtain ⟨i,hi,hsz⟩:∃ i,P.info? t=some i∧i.size=v.cells.toList.length:=by
   cases hi:P.info? t with
   | none=>simp [hi] at hs
   | some i=>simp [hi] at hs;exact ⟨i,rfl,by simpa using hs⟩
  obtain ⟨w',hr,hk,hw⟩:=ot (P:=P) h;refine ⟨w',?_,hk,hw⟩;simp only [storeVar,Sem.run_bind,cV hi,Result.andThen_ok];rw [Uq (by simp [hsz])];exact hr
 ·exact h.elim
theorem Bd (P:Program) (m:Sem Value) (w:World):(do pure (Next.value (← m)):Sem Next).run P w=(m.run P w).andThen fun v w'=>.ok (.value v) w':=by
 simp
theorem jW {P:Program}{m:Sem Next}{k:Value->Prop} (h:ET P m (Hg k)):∃ v,k v∧∀ w,m.run P w=.ok (.value v) w:=by
 obtain ⟨nx,h1,h2⟩:=yU P m _ h;cases nx <;> simp only [Hg] at h1;exact ⟨_,h1,h2⟩
theorem iH {P:Program}{e:TypeId} (h:(P.info? e).isSome=true):∃ i,P.info? e=some i∧i.size=kd P e:=by
 cases hi:P.info? e with
 | none=>simp [hi] at h
 | some i=>exact ⟨i,rfl,by simp [kd,hi]⟩
theorem gK (P:Program) (κ:IntKind) (n:Int) (w:World):(asIntOf (.int κ n)).run P w=.ok (κ,n) w:=rfl
theorem qD {P:Program}{t e:TypeId}{base:Option Addr}{len cap:Nat}{κ:IntKind}{i:Int}{b:Addr} (hu:P.underlying t=some (.slice e)) (he:(P.info? e).isSome=true)
  (hi:0<=i∧i<len) (hb:base=some b) (w:World):(Instr.indexAt t (.slice base len cap) (.int κ i)).run P w=.ok (.pointer (some (b.add (i.toNat*kd P e)))) w:=by
 obtain ⟨inf,h1,h2⟩:=iH he;subst hb;simp only [Instr.indexAt,Sem.run_bind,gK,Result.andThen_ok,bf hu,Sem.run_pure,Ur hi,cV h1,h2]
theorem qC {P:Program}{t e:TypeId}{n:Nat}{κ:IntKind}{i:Int}{b:Addr} (hu:P.underlying t=some (.array n e)) (he:(P.info? e).isSome=true)
  (hi:0<=i∧i<(n:Int)) (w:World):(Instr.indexAt t (.pointer (some b)) (.int κ i)).run P w=.ok (.pointer (some (b.add (i.toNat*kd P e)))) w:=by
 obtain ⟨inf,h1,h2⟩:=iH he;simp only [Instr.indexAt,Instr.sureAddr,Sem.run_bind,gK,Result.andThen_ok,bf hu,Sem.run_pure,Ur hi,cV h1,h2]
theorem cg (P:Program) (κ:IntKind) (i:Int) (y:Nat) (c:BoundsCode) (h:0<=i∧i<=y) (w:World):(Instr.sliceBound (.int κ i) y c).run P w=.ok i.toNat w:=by
 simp only [Instr.sliceBound,Sem.run_bind,gK,Result.andThen_ok,Ur h,Sem.run_pure]
theorem jI (a:Option Addr):a.map (·.add 0)=a:=by cases a <;> rfl
theorem vr {P:Program}{t e:TypeId}{base:Option Addr}{len cap:Nat}{lo hi:Option Value}{k:Value->Prop} (hu:P.underlying t=some (.slice e)) (he:(P.info? e).isSome=true)
  (h:match lo,hi with
    | none,none=>k (.slice base len cap)
    | none,some (.int _ h)=>(0<=h∧h<=(cap:Int))∧k (.slice base h.toNat cap)
    | some (.int _ l),none=>(0<=l∧l<=(len:Int))∧k (.slice (jS base cap l (kd P e)) (len-l.toNat) (cap-l.toNat))
    | some (.int _ l),some (.int _ h)=>((0<=h∧h<=(cap:Int))∧0<=l∧l<=h)∧k (.slice (jS base cap l (kd P e)) (h.toNat-l.toNat) (cap-l.toNat))
    | _,_=>False):∃ v,k v∧∀ w,(Instr.slice t (.slice base len cap) lo hi none).run P w=.ok v w:=by
 obtain ⟨inf,h1,h2⟩:=iH he;split at h
 ·refine ⟨_,h,fun w=>?_⟩;simp only [Instr.slice,Instr.sliceBounds,Sem.run_bind,bf hu,Result.andThen_ok,Sem.run_pure,cV h1,Nat.zero_mul,jI,ite_self,WB]
 ·refine ⟨_,h.2,fun w=>?_⟩;simp only [Instr.slice,Instr.sliceBounds,Sem.run_bind,bf hu,Result.andThen_ok,Sem.run_pure,cV h1,Nat.zero_mul,jI,ite_self,WB,cg _ _ _ _ _ h.1]
 ·refine ⟨_,h.2,fun w=>?_⟩;simp only [Instr.slice,Instr.sliceBounds,Sem.run_bind,bf hu,Result.andThen_ok,Sem.run_pure,cV h1,cg _ _ _ _ _ h.1,jS,h2]
 ·rename_i l _ h';refine ⟨_,h.2,fun w=>?_⟩;have hb:0<=l∧l<=((h'.toNat:Nat):Int):=⟨h.1.2.1,by have:=h.1.1.1;have:=h.1.2.2;omega⟩;simp only [Instr.slice,Instr.sliceBounds,Sem.run_bind,bf hu,Result.andThen_ok,Sem.run_pure,cV h1,cg _ _ _ _ _ h.1.1,cg _ _ _ _ _ hb,jS,h2]
 ·exact h.elim
theorem zk {P:Program}{t:TypeId}{s:ByteArray}{lo hi:Option Value}{k:Value->Prop} (hu:P.underlying t=some .string)
  (h:match lo,hi with
   | none,none=>k (.string (s.extract 0 s.size))
   | none,some (.int _ h)=>(0<=h∧h<=(s.size:Int))∧k (.string (s.extract 0 h.toNat))
   | some (.int _ l),none=>(0<=l∧l<=(s.size:Int))∧k (.string (s.extract l.toNat s.size))
   | some (.int _ l),some (.int _ h)=>((0<=h∧h<=(s.size:Int))∧0<=l∧l<=h)∧k (.string (s.extract l.toNat h.toNat))
   | _,_=>False):∃ v,k v∧∀ w,(Instr.slice t (.string s) lo hi none).run P w=.ok v w:=by
 split at h
 ·refine ⟨_,h,fun w=>?_⟩;simp only [Instr.slice,Instr.sliceBounds,Sem.run_bind,bf hu,Result.andThen_ok,Sem.run_pure,VU,U9,if_false]
 ·refine ⟨_,h.2,fun w=>?_⟩;simp only [Instr.slice,Instr.sliceBounds,Sem.run_bind,bf hu,Result.andThen_ok,Sem.run_pure,cg _ _ _ _ _ h.1,VU,U9,if_false]
 ·refine ⟨_,h.2,fun w=>?_⟩;simp only [Instr.slice,Instr.sliceBounds,Sem.run_bind,bf hu,Result.andThen_ok,Sem.run_pure,cg _ _ _ _ _ h.1,VU,U9,if_false]
 ·rename_i l _ h';refine ⟨_,h.2,fun w=>?_⟩;have hb:0<=l∧l<=((h'.toNat:Nat):Int):=⟨h.1.2.1,by have:=h.1.1.1;have:=h.1.2.2;omega⟩;simp only [Instr.slice,Instr.sliceBounds,Sem.run_bind,bf hu,Result.andThen_ok,Sem.run_pure,cg _ _ _ _ _ h.1.1,cg _ _ _ _ _ hb,VU,U9,if_false]
 ·exact h.elim
def oF:Value->Value->Bool
 | .nilIface,.nilIface | .agg _,.agg _=>false
 | _,_=>true
theorem jU (P:Program) (op:BinOp) (t:TypeId) (x y:Operand) (a b:Value) (h:oF a b=true) (w:World) :
  (eqGuard op t x y a b).run P w=.ok () w:=by
 unfold eqGuard;cases op <;> simp <;> cases a <;> cases b <;> simp [oF] at h ⊢
theorem sE {P:Program}{t e:TypeId} (hu:P.underlying t=some (.pointer e)) (p:Option Addr) (w:World) (d:Nat):(Op.equalIn (d+1) t (.pointer p) (.pointer none)).run P w=.ok p.isNone w:=by
 cases p <;> simp only [Op.equalIn,Sem.run_bind,bf hu,Result.andThen_ok,Sem.run_pure,UA,Uw]
theorem qX {P:Program}{t e:TypeId} (hu:P.underlying t=some (.pointer e)) (p:Option Addr) (w:World):(Op.equal t (.pointer p) (.pointer none)).run P w=.ok p.isNone w:=sE hu p w 9999
theorem qy {P:Program}{t e:TypeId} (hu:P.underlying t=some (.slice e)) (p:Option Addr) (l c l' c':Nat) (w:World) (d:Nat):(Op.equalIn (d+1) t (.slice p l c) (.slice none l' c')).run P w=.ok p.isNone w:=by
 cases p <;> simp only [Op.equalIn,Sem.run_bind,bf hu,Result.andThen_ok,Sem.run_pure,UA,Uw]
theorem pT {P:Program}{t e:TypeId} (hu:P.underlying t=some (.slice e)) (p:Option Addr) (l c l' c':Nat) (w:World):(Op.equal t (.slice p l c) (.slice none l' c')).run P w=.ok p.isNone w:=qy hu p l c l' c' w 9999
theorem qE {P:Program}{t a b:TypeId} (hu:P.underlying t=some (.map a b)) (p:Option Nat) (w:World) (d:Nat):(Op.equalIn (d+1) t (.map p) (.map none)).run P w=.ok p.isNone w:=by
 cases p <;> simp only [Op.equalIn,Sem.run_bind,bf hu,Result.andThen_ok,Sem.run_pure,UA,Uw]
theorem qd {P:Program}{t a b:TypeId} (hu:P.underlying t=some (.map a b)) (p:Option Nat) (w:World):(Op.equal t (.map p) (.map none)).run P w=.ok p.isNone w:=qE hu p w 9999
theorem sW {P:Program}{dst:Option Tmp}{type t u:TypeId}{pos:String}{after:Array Edge}{guard:Option (Nat × Bool)}{x y:Operand}{ρ:Operand->Value}{b:Bool}{va vb:Value} (hx:ρ x=va) (hy:ρ y=vb)
  (hg:oF va vb=true)
  (hn:Go.binOp .eql t va vb=(do pure (.bool (← Op.equal t va vb)))) (w:World) (h:(Op.equal t va vb).run P w=.ok b w) :
  (execOp ρ ⟨dst,.binOp .eql t x y u,type,pos,after,guard⟩).run P w=.ok (.value (.bool b)) w:=by
 show Sem.run P (do pure (Next.value (← (do eqGuard .eql t x y (ρ x) (ρ y);Go.binOp .eql t (ρ x) (ρ y)))):Sem Next) w=_;rw [hx,hy,hn];simp only [Sem.run_bind,jU _ _ _ _ _ _ _ hg,Result.andThen_ok,h,Sem.run_pure]
theorem tq {P:Program}{dst:Option Tmp}{type t u:TypeId}{pos:String}{after:Array Edge}{guard:Option (Nat × Bool)}{x y:Operand}{ρ:Operand->Value}{b:Bool}{va vb:Value} (hx:ρ x=va) (hy:ρ y=vb)
  (hg:oF va vb=true)
  (hn:Go.binOp .neq t va vb=(do pure (.bool (!(← Op.equal t va vb))))) (w:World) (h:(Op.equal t va vb).run P w=.ok b w) :
  (execOp ρ ⟨dst,.binOp .neq t x y u,type,pos,after,guard⟩).run P w=.ok (.value (.bool (!b))) w:=by
 show Sem.run P (do pure (Next.value (← (do eqGuard .neq t x y (ρ x) (ρ y);Go.binOp .neq t (ρ x) (ρ y)))):Sem Next) w=_;rw [hx,hy,hn];simp only [Sem.run_bind,jU _ _ _ _ _ _ _ hg,Result.andThen_ok,h,Sem.run_pure]
theorem lL {P:Program}{o:Oper}{ρ:Operand->Value}{k:Value->Prop} (h:iy P o ρ k):∃ v,k v∧∀ w,(execOp ρ o).run P w=.ok (.value v) w:=by
 obtain ⟨dst,op,type,pos,after,guard⟩:=o;cases op
 case pick c x y =>
  simp only [iy] at h;split at h
  ·rename_i b hb;cases b
   ·exact ⟨_,h,fun w=>by simp [execOp,hb,asBool]⟩
   ·exact ⟨_,h,fun w=>by simp [execOp,hb,asBool]⟩
  ·exact h.elim
 case nilCheck x =>
  simp only [iy] at h;split at h
  ·rename_i p hp;obtain ⟨ad,rfl,h⟩:=h;exact ⟨_,h,fun w=>by simp [execOp,hp]⟩
  ·exact jW h
 case indexAddr t x i =>
  simp only [iy] at h;split at h
  ·rename_i e base len cap κ i hu hx hi;split at h
   ·rename_i he;obtain ⟨hb,b,Jq,h⟩:=h;exact ⟨_,h,fun w=>by simp only [execOp,Bd,hx,hi,qD hu he hb Jq,Result.andThen_ok]⟩
   ·exact h.elim
  ·rename_i n e b κ i hu hx hi;split at h
   ·rename_i he;obtain ⟨hb,h⟩:=h;exact ⟨_,h,fun w=>by simp only [execOp,Bd,hx,hi,qC hu he hb,Result.andThen_ok]⟩
   ·exact h.elim
  ·exact h.elim
 case index t x i =>
  simp only [iy] at h;split at h
  ·rename_i s κ i hu hx hi;obtain ⟨b,⟨h0,hb⟩,h⟩:=h;refine ⟨_,h,fun w=>?_⟩;simp only [execOp,hx,hi,Instr.index,Sem.run_bind,gK,Result.andThen_ok,bf hu,Ur h0,hb,Sem.run_pure]
  ·rename_i len e cs κ i hu hx hi;split at h
   ·rename_i h1;obtain ⟨hb,h⟩:=h;obtain ⟨v,hv,h⟩:=kj h;refine ⟨_,h,fun w=>?_⟩;obtain ⟨d,hd,Pc,inf,Ng,MT⟩:∃ d,P.underlying e=some d∧(isAgg e).run P w=.ok false w∧∃ inf,P.info? e=some inf∧inf.size=1:=by
     unfold Ik at h1;split at h1
     ·cases h1
     ·cases h1
     ·cases h1
     ·rename_i d Pe Nf hd;have h1:=of_decide_eq_true h1;refine ⟨d,hd,?_,?_⟩
      ·simp only [isAgg,Sem.run_bind,bf hd,Result.andThen_ok];cases d with
       | struct fs=>exact absurd hd (by simpa using Pe fs)
       | array l e=>exact absurd hd (by simpa using Nf l e)
       | _=>rfl
      ·cases hi:P.info? e with
       | none=>simp [hi] at h1
       | some i=>simp [hi] at h1;exact ⟨i,rfl,h1⟩
    simp only [execOp,hx,hi,Instr.index,Sem.run_bind,gK,Result.andThen_ok,bf hu,Ur hb,cV Ng,MT,UC,part,Pc,U9,if_false,hv,Sem.run_pure]
   ·exact jW h
  ·exact h.elim
 case slice t x lo hi mx =>
  cases mx with
  | some m =>
   cases hi with
   | none=>simp only [iy] at h;exact jW h
   | some hi =>
    simp only [iy] at h;split at h
    ·rename_i e base len cap κ h' κ' m' hu hx Rp hm;split at h
     ·rename_i he;obtain ⟨inf,h1,h2⟩:=iH he;split at h
      ·rename_i D0;have hb:0<=h'∧h'<=((m'.toNat:Nat):Int):=⟨h.1.2.1,by have:=h.1.1.1;have:=h.1.2.2;omega⟩;refine ⟨_,h.2,fun w=>?_⟩;simp only [execOp,hx,Rp,hm,D0,Instr.sliceAt,Instr.slice,Instr.sliceBounds,Sem.run_bind,bf hu,Result.andThen_ok,Vw,Sem.run_pure,cV h1,cg _ _ _ _ _ h.1.1,cg _ _ _ _ _ hb,Nat.zero_mul,jI,ite_self,WB]
      ·rename_i l D0;have hb:0<=h'∧h'<=((m'.toNat:Nat):Int):=⟨h.1.1.2.1,by have:=h.1.1.1.1;have:=h.1.1.2.2;omega⟩;have c9:0<=l∧l<=((h'.toNat:Nat):Int):=⟨h.1.2.1,by have:=h.1.2.2;have:=h.1.1.2.1;omega⟩;refine ⟨_,h.2,fun w=>?_⟩;simp only [execOp,hx,Rp,hm,D0,Instr.sliceAt,Instr.slice,Instr.sliceBounds,Sem.run_bind,bf hu,Result.andThen_ok,Vw,Sem.run_pure,cV h1,cg _ _ _ _ _ h.1.1.1,cg _ _ _ _ _ hb,cg _ _ _ _ _ c9,jS,h2]
      ·exact h.elim
     ·exact h.elim
    ·exact h.elim
  | none =>
   simp only [iy] at h;split at h
   ·rename_i e base len cap hu hx;split at h
    ·rename_i he;obtain ⟨v,hk,hr⟩:=vr hu he h;refine ⟨v,hk,fun w=>?_⟩;simp only [execOp,hx,Instr.sliceAt,Sem.run_bind,bf hu,Result.andThen_ok,WC,hr,Sem.run_pure]
    ·exact h.elim
   ·rename_i s hu hx;obtain ⟨v,hk,hr⟩:=zk hu h;refine ⟨v,hk,fun w=>?_⟩;simp only [execOp,hx,Instr.sliceAt,Sem.run_bind,bf hu,Result.andThen_ok,WC,hr,Sem.run_pure]
   ·exact h.elim
 case binOp op t x y u =>
  simp only [iy] at h;split at h
  ·rename_i e p hu hx hy;exact ⟨_,h,fun w=>sW hx hy rfl rfl w (qX hu p w)⟩
  ·rename_i e p hu hx hy;exact ⟨_,h,fun w=>tq hx hy rfl rfl w (qX hu p w)⟩
  ·rename_i hu hx hy;exact ⟨_,h,fun w=>sW hx hy rfl rfl w (pT hu _ _ _ _ _ w)⟩
  ·rename_i hu hx hy;exact ⟨_,h,fun w=>tq hx hy rfl rfl w (pT hu _ _ _ _ _ w)⟩
  ·rename_i hu hx hy;exact ⟨_,h,fun w=>sW hx hy rfl rfl w (qd hu _ w)⟩
  ·rename_i hu hx hy;exact ⟨_,h,fun w=>tq hx hy rfl rfl w (qd hu _ w)⟩
  ·rename_i κ x' κ' y' hx hy;split at h
   ·rename_i hk;have hk:=of_decide_eq_true hk;subst hk;by_cases At:y'=0
    ·simp [At] at h
    ·simp only [At,decide_false,Ut] at h;exact ⟨_,h,fun w=>by simp [execOp,hx,hy,eqGuard,Go.binOp,Op.intDiv,At]⟩
   ·exact h.elim
  ·rename_i κ x' κ' y' hx hy;split at h
   ·rename_i hk;have hk:=of_decide_eq_true hk;subst hk;by_cases At:y'=0
    ·simp [At] at h
    ·simp only [At,decide_false,Ut] at h;exact ⟨_,h,fun w=>by simp [execOp,hx,hy,eqGuard,Go.binOp,Op.intDiv,At]⟩
   ·exact h.elim
  ·rename_i κ x' κ' y' hx hy;by_cases At:y'<0
   ·simp [At] at h
   ·simp only [At,decide_false,Ut] at h;exact ⟨_,h,fun w=>by simp [execOp,hx,hy,eqGuard,Go.binOp,Op.shift,At,gQ]⟩
  ·rename_i κ x' κ' y' hx hy;by_cases At:y'<0
   ·simp [At] at h
   ·simp only [At,decide_false,Ut] at h;exact ⟨_,h,fun w=>by simp [execOp,hx,hy,eqGuard,Go.binOp,Op.shift,At,jR]⟩
  ·rename_i x' y' hx hy;by_cases At:((x'.size+y'.size:Nat):Int) > IntKind.i64.max
   ·simp only [At,decide_true,UK] at h
   ·simp only [At,decide_false,Ut] at h;exact ⟨_,h,fun w=>by simp only [execOp,hx,hy,Sem.run_bind,eqGuard,Go.binOp,Op.stringOp];simp only [At];simp⟩
  ·exact jW h
 all_goals exact jW h
theorem gC {P:Program}{o:Oper}{a:Act}{next:Act->World->Prop}{Q:Exit->Act->World->Prop}{r:Result Next}{v:Value}{w:World} (hr:r=.ok (.value v) w) (h:next (a.put o.dst v) w):o.upon P a next Q r:=by
 subst hr;exact h
theorem rL {P:Program}{o:Oper}{a:Act}{next:Act->World->Prop}{Q:Exit->Act->World->Prop}{r:Result Next}{w:World} (hr:r=.ok .skip w) (h:next (a.put o.dst undef) w):o.upon P a next Q r:=by
 subst hr;exact h
theorem rW {P:Program}{m:Sem Value}{w w':World}{v:Value} (h:m.run P w=.ok v w'):(do pure (Next.value (← m)):Sem Next).run P w=.ok (.value v) w':=by
 simp only [Sem.run_bind,h,Result.andThen_ok,Sem.run_pure]
theorem E4 {P:Program}{m:Sem Unit}{w w':World} (h:m.run P w=.ok () w'):(do m;pure Next.skip:Sem Next).run P w=.ok .skip w':=by
 simp only [Sem.run_bind,h,Result.andThen_ok,Sem.run_pure]
theorem cR {P:Program}{o:Oper}{a:Act}{next:Act->World->Prop}{Q:Exit->Act->World->Prop}{m:Sem Value}{k:Value->ag->Prop}{w:World}
  (he:execOp a.eval o=(do pure (Next.value (← m)))) (h:cu P m k w.heap) (hk:∀ v w',k v w'.heap->cO w w'->next (a.put o.dst v) w'):o.wp P a w next Q:=by
 obtain ⟨v,w',hr,hq,hs⟩:=mR P m k w h;unfold Oper.wp;rw [he];exact gC (rW hr) (hk v w' hq hs)
theorem px {P:Program}{o:Oper}{a:Act}{next:Act->World->Prop}{Q:Exit->Act->World->Prop}{m:Sem Unit}{k:ag->Prop}{w:World}
  (he:execOp a.eval o=(do m;pure Next.skip)) (h:cu P m (fun _=>k) w.heap) (hk:∀ w',k w'.heap->cO w w'->next (a.put o.dst undef) w'):o.wp P a w next Q:=by
 obtain ⟨v,w',hr,hq,hs⟩:=mR P m _ w h;unfold Oper.wp;rw [he];exact rL (E4 hr) (hk w' hq hs)
theorem ju {P:Program} (hP:GoodPg P){g:FuncId}{fn:Func} (hf:P.funcs[g]?=some fn) (hb:fn.body.isSome=true) (args:Array Value) (w:World) :
  (callFunc g args).run P w=.ok (.enter g args) w:=by
 have hn : (fn.name == "runtime.NumGoroutine") = false := by
  have:=Array.all_eq_true_iff_forall_mem.1 hP.names fn (Array.mem_of_getElem? hf);simpa using this
 have b8:fn.body.isNone=false:=by cases h:fn.body <;> simp [h] at hb ⊢
 simp only [callFunc,Sem.run_bind,run_program,Result.andThen_ok,hf,hn,b8,U9,if_false,Sem.run_pure]
theorem pF {P:Program} (hP:GoodPg P){o:Oper}{a:Act}{k:Value->ag->Prop}{w:World}{next:Act->World->Prop}{Q:Exit->Act->World->Prop}
  (h:uX P o a.eval k w.heap) (hk:∀ v w',k v w'.heap->cO w w'->next (a.put o.dst v) w'):o.wp P a w next Q:=by
 unfold uX at h;split at h
 ·obtain ⟨v,hv,hr⟩:=lL h;unfold Oper.wp;exact gC (hr w) (hk v w hv (cO.refl w))
 ·rename_i LI;clear LI;obtain ⟨dst,op,type,pos,after,guard⟩:=o;have ta:∀ v w',xM P type v (fun x=>k x w'.heap)->cO w w'->next (a.put dst v) w':=fun v w' h hs=>hk v w' (tF h) hs
  cases op <;> simp only [] at h
  case load t x =>
   split at h
   ·rename_i ad hx;obtain ⟨v,cs,hv,hc,hr⟩:=kl h;unfold Oper.wp;refine gC (v:=v) (w:=w) ?_ (hk v w hv (cO.refl w));refine rW ?_;simp only [hx,Instr.loadAt,Instr.sureAddr,Sem.run_bind,Sem.run_pure,Result.andThen_ok];exact hr w hc
   ·exact h.elim
  case store t x v =>
   split at h
   ·rename_i ad hx;obtain ⟨w',hr,hq,hs⟩:=th h;unfold Oper.wp;refine rL (w:=w') ?_ (hk undef w' hq hs);refine E4 ?_;simp only [hx,Instr.storeAt,Instr.sureAddr,Sem.run_bind,Sem.run_pure,Result.andThen_ok];exact hr
   ·exact h.elim
  case alloc e =>
   split at h
   ·rename_i z hz;obtain ⟨i,hi,Si⟩:∃ i,P.info? e=some i∧i.zero=some z:=by
     cases hi:P.info? e with
     | none=>simp [hi] at hz
     | some i=>simp [hi] at hz;exact ⟨i,rfl,hz⟩
    unfold Oper.wp;refine gC (v:=.pointer (some ⟨w.heap.size,0,none⟩)) (w:={ w with heap:=w.heap.push (.cells z.cells e) }) ?_ (hk _ _ h (cO.heap (dg.push _ _)));refine rW ?_;simp only [Instr.alloc,zeroValue,Sem.run_bind,kU hi,Result.andThen_ok,Si,Sem.run_pure,newVar,newRow,run_newObj]
   ·exact h.elim
  case box e x =>
   unfold Oper.wp;refine gC (v:=.pointer (some ⟨w.heap.size,0,none⟩)) (w:={ w with heap:=w.heap.push (.cells (a.eval x).cells e) }) ?_ (hk _ _ h (cO.heap (dg.push _ _)));refine rW ?_;simp only [Instr.box,Sem.run_bind,Result.andThen_ok,Sem.run_pure,newVar,newRow,run_newObj]
  case buildSlice t len parts=>exact cR rfl h hk
  case makeMap t r =>
   cases r with
   | some r=>exact h.elim
   | none =>
    unfold Oper.wp;refine gC (v:=.map (some w.heap.size)) (w:={ w with heap:=w.heap.push (.map #[] 0) }) ?_ (hk _ _ h (cO.heap (dg.push _ _)));rfl
  case makeSlice t l c=>exact cR rfl h ta
  case lookup t m key ok=>exact cR rfl h ta
  case mapUpdate t m key x=>exact px rfl h (hk undef)
  case insert t m key x=>exact px rfl h (hk undef)
  case mapEntry t m key=>exact cR rfl h hk
  case entryStore t m s x=>exact px rfl h (hk undef)
  case range t x=>exact cR rfl h hk
  case next it s =>
   refine cR rfl h fun v w' hv hs=>?_;rcases hv with ⟨rfl,hv⟩ | ⟨x,y,rfl,hv⟩
   ·exact hk _ w' hv hs
   ·exact hk _ w' hv hs
  case convert src dst x=>exact cR rfl h ta
  case binOp op t x y u=>exact cR rfl h ta
  case call c =>
   obtain ⟨callee,args,argTypes⟩:=c;cases callee <;> simp only [] at h
   case value f =>
    split at h
    ·rename_i g first cap hf
     obtain ⟨⟨fn,hfn,hb⟩,hc⟩:=h;have Jh:(execOp a.eval ⟨dst,.call ⟨.value f,args,argTypes⟩,type,pos,after,guard⟩).run P w=.ok (.enter g ((first++args.map a.eval)++cap)) w:=by
      show Sem.run P (do let d ← resolve a.eval ⟨.value f,args,argTypes⟩ type;invoke d.target d.args) w=_;simp only [resolve,hf,Deferred.ofValue,Sem.run_bind,Sem.run_pure,Result.andThen_ok,invoke];exact ju hP hfn hb _ w
     unfold Oper.wp;rw [Jh,Oper.upon_enter];refine (hc w rfl).mono ?_;rintro e w' ⟨v,rfl,hv,hs⟩;exact ta v w' hv hs
    ·exact h.elim
   case builtin b =>
    cases b <;> simp only [] at h
    case append=>exact cR rfl h ta
    case copy=>exact cR rfl h ta
    case len=>exact cR rfl h ta
    case unsafeSliceData=>exact cR rfl h ta
    case unsafeString=>exact cR rfl h ta
    case clear=>exact cR rfl h hk
    case delete=>exact cR rfl h hk
    all_goals exact h.elim
  all_goals exact h.elim
abbrev FR (r:Option Nat):Fence:={ fn:=fun _=>True,depth:=none,alive:=false,round:=r }
theorem pX {r:Option Nat}{n:Nat}{P:Program}{f:FuncId}{args:Array Value}{w:World}{R:Ending->World->Prop} (h:Calls P f args w R):CallsIn (FR r) n P f args w R:=by
 cases r with
 | none=>exact callsIn_wide.2 h
 | some l=>exact callsIn_wide (n:=n).2 h
theorem zj {r:Option Nat}{n:Nat}{P:Program}{row:String}{args:Array Value}{w:World}{R:Value->World->Prop} (h:Rows P row args w R):RowsIn (FR r) n P row args w R:=by
 intro c cs _;obtain ⟨v,w',hr,hs⟩:=h c cs;refine ⟨v,w',hr,?_⟩;cases r with
 | none=>exact stepsIn_wide.2 hs
 | some l=>exact stepsIn_wide.2 hs
theorem wx {r:Option Nat}{n:Nat}{P:Program}{l:Nat}{f:FuncId}{tmps:Array Value}{assign body:Code}{w:World}{R:Ending->World->Prop} (h:RoundIn Fence.wide 0 P l f tmps assign body w R):RoundIn (FR r) n P l f tmps assign body w R:=by
 refine ⟨trivial,fun c cs _=>?_⟩;obtain ⟨e,w',hR,hs⟩:=h.2 c cs (room_wide _);refine ⟨e,w',hR,?_⟩;cases r with
 | none=>exact hs
 | some l=>exact hs
theorem BE {P:Program}{r:Option Nat}{n:Nat}{o:Oper}{a:Act}{next:Act->World->Prop}{Q:Exit->Act->World->Prop}:∀ {res:Result Next},o.upon P a next Q res->o.uponIn (FR r) n P a next Q res:=by
 intro res h;unfold Oper.upon at h;unfold Oper.uponIn;split at h
 ·exact h
 ·exact h
 ·exact h
 ·exact ⟨fun h=>(by cases h),pX h⟩
 ·exact ⟨fun h=>(by cases h),zj h⟩
 ·exact h
 ·exact h.elim
theorem IB {P:Program}{r:Option Nat}{n:Nat}{o:Oper}{a:Act}{w:World}{next:Act->World->Prop}{Q:Exit->Act->World->Prop} (hd:∀ c,o.op≠.defer c) (h:o.wp P a w next Q):o.wpIn (FR r) n P a w next Q:=by
 refine ⟨fun _ _=>trivial,?_⟩;rw [Oper.semAt_eq _ _ _ hd];exact BE h
abbrev Act.re (a:Act) (dr:List Deferred):Act:=⟨a.tmps,dr⟩
theorem ie (a:Act) (dr:List Deferred):(Act.re a dr).eval=a.eval:=by
 funext x;cases x <;> rfl
theorem lm (a:Act) (dr:List Deferred) (d:Option Tmp) (v:Value):(Act.re a dr).put d v=Act.re (a.put d v) dr:=by
 cases d <;> rfl
inductive MixD (n:Nat) (H:ag):List Deferred->List Deferred->List Nat->Prop
 | nil:MixD n H [] [] []
 | mark {D:Nat}{dr da:List Deferred}{l:List Nat}:H[D]?=some (.deferred (some []))->n<=D->D∉l->MixD n H dr da l->MixD n H (⟨.collected D,#[]⟩ :: dr) da (D :: l)
 | call {d:Deferred}{dr da:List Deferred}{l:List Nat}:MixD n H dr da l->MixD n H (d :: dr) (d :: da) l
theorem MixD.keep {n:Nat}{H H':ag}{dr da:List Deferred}{l:List Nat} (h:MixD n H dr da l) (hk:dg H H'):MixD n H' dr da l:=by
 induction h with
 | nil=>exact .nil
 | mark h1 h2 h3 _ ih=>exact .mark (hk.2 _ _ h1) h2 h3 ih
 | call _ ih=>exact .call ih
theorem MixD.lt {n:Nat}{H:ag}{dr da:List Deferred}{l:List Nat} (h:MixD n H dr da l):∀ D∈l,n<=D∧H[D]?=some (.deferred (some [])):=by
 induction h with
 | nil=>simp
 | mark h1 h2 h3 _ ih =>
  intro D hD;rcases Us.1 hD with rfl | hD
  ·exact ⟨h2,h1⟩
  ·exact ih D hD
 | call _ ih=>exact ih
def co (ws:List Nat) (nd:Bool) (a a':Act):Prop:=a'.tmps.size=a.tmps.size∧(nd=true->a'.defers=a.defers)∧∀ i,i∉ws->a'.tmps[i]?=a.tmps[i]?
theorem co.refl (ws:List Nat) (nd:Bool) (a:Act):co ws nd a a:=⟨rfl,fun _=>rfl,fun _ _=>rfl⟩
theorem co.trans {ws:List Nat}{nd:Bool}{a a' a'':Act} (h:co ws nd a a') (h':co ws nd a' a''):co ws nd a a'' :=
 ⟨h'.1.trans h.1,fun hn=>(h'.2.1 hn).trans (h.2.1 hn),fun i hi=>(h'.2.2 i hi).trans (h.2.2 i hi)⟩
theorem co.mono {ws ws':List Nat}{nd nd':Bool}{a a':Act} (h:co ws nd a a') (hs:∀ i∈ws,i∈ws') (hn:nd'=true->nd=true):co ws' nd' a a' :=
 ⟨h.1,fun h1=>h.2.1 (hn h1),fun i hi=>h.2.2 i fun hm=>hi (hs i hm)⟩
theorem co.put {ws:List Nat}{nd:Bool}{a:Act}{dst:Option Tmp}{v:Value} (h:∀ d,dst=some d->d∈ws):co ws nd a (a.put dst v):=by
 cases dst with
 | none=>exact co.refl ws nd a
 | some d =>
  refine ⟨by simp [Act.put],fun _=>rfl,fun i hi=>?_⟩
  have:d≠i:=fun e=>hi (e ▸ h d rfl);simp [Act.put,Vk this]
theorem i6 {a:Act}{d:Nat}{v:Value} (h:a.tmps[d]?=some v):a.put (some d) v=a:=by
 obtain ⟨tmps,defers⟩:=a;simp only [Act.put] at h ⊢
 congr 1
 obtain ⟨hd,hv⟩:=UN.1 h;apply W4 (by simp);intro i h1 h2;rw [Array.getElem_setIfInBounds (by simpa using h2)];split
 ·rename_i e;subst e;exact hv.symm
 ·rfl
theorem jG {ops:Array Oper}{o:Oper}{a:Act}{yes no:Act->Prop} (h:mq ops o a yes no) :
  (Region.wanted o (yielded ops a.tmps)=true∧yes a)∨(Region.wanted o (yielded ops a.tmps)=false∧no a):=by
 unfold mq at h;unfold Region.wanted;split at h
 ·rename_i hg;rw [hg];exact .inl ⟨rfl,h⟩
 ·rename_i j want hg;rw [hg];dsimp only;split at h
  ·rename_i hd;refine .inr ⟨?_,h⟩;simp [yielded,hd]
  ·rename_i d hd;have hy:yielded ops a.tmps j=match a.tmps[d]? with | some (.bool b)=>some b | _=>none:=by
    unfold yielded;rw [hd];rfl
   split at h
   ·rename_i b hb;rw [hy,hb];cases b
    ·rw [Ut] at h;cases want
     ·exact .inl ⟨rfl,by simpa only [i6 hb] using h⟩
     ·exact .inr ⟨rfl,by simpa only [i6 hb] using h⟩
    ·rw [UK] at h;cases want
     ·exact .inr ⟨rfl,by simpa only [i6 hb] using h⟩
     ·exact .inl ⟨rfl,by simpa only [i6 hb] using h⟩
   ·rename_i hb;rw [hy,hb];exact .inr ⟨rfl,h⟩
   ·rename_i hb;rw [hy,hb];exact .inr ⟨rfl,h⟩
   ·exact h.elim
theorem iz (a:Act) (d:Option Tmp) (v:Value):(a.put d v).defers=a.defers:=by cases d <;> rfl
theorem qG {P:Program}{o:Oper}{ρ:Operand->Value}{k:Value->ag->Prop}{H:ag} (h:uX P o ρ k H):∀ c,o.op≠.defer c:=by
 intro c hc;obtain ⟨dst,op,type,pos,after,guard⟩:=o;simp only at hc;subst hc;exact h
theorem rK {P:Program}{t:Option TypeId}{k:Value->Prop} (h:Ff P t k):∃ v,k v:=by
 cases t with
 | none=>exact h
 | some t=>exact mD h
theorem tr {P:Program} (hP:GoodPg P){r:Option Nat}{n:Nat}{ops:Array Oper}{o:Oper}{a:Act}{dr:List Deferred}{l:List Nat}{m:Nat}{k:Act->ag->Prop}{w:World}{next:Act->World->Prop}{Q:Exit->Act->World->Prop}{ws:List Nat}
  (hd:∀ d,o.dst=some d->d∈ws) (hr:r=none∨fT o=false) (hm:MixD m w.heap dr a.defers l) (h:vI P ops o a k w.heap)
  (hk:∀ a' dr' w',k a' w'.heap->cO w w'->co ws (!fT o) a a'->MixD m w'.heap dr' a'.defers l->next (Act.re a' dr') w'):o.wpIn (FR r) n P (Act.re a dr) w next Q:=by
 have plain:uX P o a.eval (fun v H'=>k (a.put o.dst v) H') w.heap->o.wpIn (FR r) n P (Act.re a dr) w next Q:=by
  intro h;refine IB (qG h) (pF hP (a:=Act.re a dr) (by rw [ie];exact h) fun v w' hv hs=>?_);rw [lm];exact hk _ dr w' hv hs (co.put hd) (by rw [iz];exact hm.keep hs.2.2.2.2)
 unfold vI at h;split at h
 ·rename_i c sa;split at h
  ·rename_i f hf;split at h
   ·rename_i g first cap Pf
    have Nh:r=none:=hr.resolve_right (by simp [fT,sa]);subst Nh;refine ⟨fun _ _=>trivial,?_⟩;have Jh:(o.semAt none (Act.re a dr).eval).run P w=.ok (.defer ⟨.fn (.func g) cap,first++c.args.map a.eval⟩) w:=by
     rw [Oper.semAt_none,ie];obtain ⟨dst,op,type,pos,after,guard⟩:=o;simp only at sa;subst sa;obtain ⟨callee,args,argTypes⟩:=c;simp only at hf;subst hf;simp only [execOp,resolve,Pf,Deferred.ofValue,Sem.run_bind,Sem.run_pure,Result.andThen_ok]
    show o.uponIn (FR none) n P (Act.re a dr) next Q ((o.semAt none (Act.re a dr).eval).run P w)
    rw [Jh,Oper.uponIn_defer];have e:({ Act.re a dr with defers:=⟨.fn (.func g) cap,first++c.args.map a.eval⟩ :: dr }:Act).put o.dst undef=Act.re (({ a with defers:=⟨.fn (.func g) cap,first++c.args.map a.eval⟩ :: a.defers }:Act).put o.dst undef) (⟨.fn (.func g) cap,first++c.args.map a.eval⟩ :: dr):=by
     cases o.dst <;> rfl
    show next (({ Act.re a dr with defers:=⟨.fn (.func g) cap,first++c.args.map a.eval⟩ :: dr }:Act).put o.dst undef) w
    rw [e];refine hk _ _ w h (cO.refl w) ?_ (by rw [iz];exact hm.call);have AT:co ws true ({ a with defers:=⟨.fn (.func g) cap,first++c.args.map a.eval⟩ :: a.defers }:Act) (({ a with defers:=⟨.fn (.func g) cap,first++c.args.map a.eval⟩ :: a.defers }:Act).put o.dst undef):=co.put hd;exact ⟨AT.1,fun hn=>by simp [fT,sa] at hn,AT.2.2⟩
   ·exact h.elim
  ·exact h.elim
 ·rename_i it sa;obtain ⟨v,w',MU,hq,hs⟩:=mR P _ _ w h;obtain ⟨x,JO⟩:=rK hq;obtain ⟨y,he,Ji⟩:=rK JO;subst he;refine ⟨fun _ _=>trivial,?_⟩;have Jh:(o.semAt r (Act.re a dr).eval).run P w=.ok (.value (.tuple #[x,y])) w':=by
   rw [Oper.semAt_eq _ _ _ (by rw [sa];simp),ie];obtain ⟨dst,op,type,pos,after,guard⟩:=o;simp only at sa;subst sa;exact rW MU
  show o.uponIn (FR r) n P (Act.re a dr) next Q ((o.semAt r (Act.re a dr).eval).run P w)
  rw [Jh,Oper.uponIn_value,lm];exact hk _ dr w' Ji hs (co.put hd) (by rw [iz];exact hm.keep hs.2.2.2.2)
 ·rename_i c sa;split at h
  ·rename_i f hf;split at h
   ·rename_i l' first cap Pf
    obtain ⟨fn,tmps,assign,body,hy,hR⟩:=h w rfl;refine ⟨fun _ _=>trivial,?_⟩;have Jh:(o.semAt r (Act.re a dr).eval).run P w=.ok (.round l' fn tmps assign body) w:=by
     rw [Oper.semAt_eq _ _ _ (by rw [sa];simp),ie];obtain ⟨dst,op,type,pos,after,guard⟩:=o;simp only at sa;subst sa;obtain ⟨callee,args,argTypes⟩:=c;simp only at hf;subst hf;simp only [execOp,resolve,Pf,Deferred.ofValue,Sem.run_bind,Sem.run_pure,Result.andThen_ok,invoke];exact hy
    show o.uponIn (FR r) n P (Act.re a dr) next Q ((o.semAt r (Act.re a dr).eval).run P w)
    rw [Jh,Oper.uponIn_round];refine ⟨fun h=>(by cases h),(wx hR).mono ?_⟩;rintro e w' ⟨v,rfl,hv,hs⟩;show next ((Act.re a dr).put o.dst v) w'
    rw [lm];exact hk _ dr w' (tF hv) hs (co.put hd) (by rw [iz];exact hm.keep hs.2.2.2.2)
   ·exact plain h
  ·exact plain h
 ·exact plain h
theorem kz {P:Program} (hP:GoodPg P){r:Option Nat}{n:Nat}{ops:Array Oper}{Q:Act->ag->Prop}{Q':Exit->Act->World->Prop}{ws:List Nat}{l:List Nat}{m:Nat}:∀ (os:List Oper) (a:Act) (dr:List Deferred) (w:World),
  (∀ o∈os,∀ d,o.dst=some d->d∈ws)->(r=none∨os.all (fun o=>!fT o)=true)->MixD m w.heap dr a.defers l->xd P ops Q os a w.heap ->
  (∀ a' dr' w',Q a' w'.heap->cO w w'->co ws (os.all fun o=>!fT o) a a'->MixD m w'.heap dr' a'.defers l->Q' .normal (Act.re a' dr') w')->wpListIn (FR r) n P ops Q' os (Act.re a dr) w
 | [],a,dr,w,_,_,hm,h,hk=>hk a dr w h (cO.refl w) (co.refl ws _ a) hm
 | o :: rest,a,dr,w,hd,hr,hm,h,hk=>by
  have JP:∀ d,o.dst=some d->d∈ws:=hd o (by simp);have Md:∀ o∈rest,∀ d,o.dst=some d->d∈ws:=fun o ho=>hd o (by simp [ho]);have I9:r=none∨fT o=false:=hr.imp id fun h=>by simpa using (VA.1 h) o (by simp)
  have Lf:r=none∨rest.all (fun o=>!fT o)=true:=hr.imp id fun h=>by rw [WQ,U3] at h;exact h.2
  have AT:∀ {b:Bool}{x y:Act},co ws b x y->((o :: rest).all (fun o=>!fT o)=true->b=true)->co ws ((o :: rest).all fun o=>!fT o) x y:=fun h hb=>h.mono (fun _ hi=>hi) hb;unfold wpListIn;rcases jG h with ⟨hw,hy⟩ | ⟨hw,hn⟩
  ·rw [Ur hw];refine tr hP JP I9 hm hy fun a1 dr1 w' hv hs Ni w6=>?_;refine kz hP rest a1 dr1 w' Md Lf w6 hv fun a' dr' w'' hq w5 dv w7=>hk a' dr' w'' hq (hs.trans w5) ((AT Ni fun h=>?_).trans (AT dv fun h=>?_)) w7
   ·rw [WQ,U3] at h;exact h.1
   ·rw [WQ,U3] at h;exact h.2
  ·rw [Uq (by simp [hw])];refine ⟨fun _ _=>trivial,?_⟩;rw [lm];refine kz hP rest (a.put o.dst undef) dr w Md Lf (by rw [iz];exact hm) hn fun a' dr' w'' hq w5 dv w7=>hk a' dr' w'' hq w5 ((co.put JP).trans (AT dv fun h=>?_)) w7;rw [WQ,U3] at h;exact h.2
section
variable {P:Program}{ops:Array Oper}{Q:Exit->Act->World->Prop}
abbrev md:Region.Mode:=.any
inductive Path (ops:Array Oper):Nat->Nat->Prop where
 | one {i j:Nat} (h:j∈lS ops i):Path ops i j
 | more {i j k:Nat} (h:j∈lS ops i) (h':Path ops j k):Path ops i k
theorem Path.snoc {i j k:Nat} (h:Path ops i j) (h':k∈lS ops j):Path ops i k:=by
 induction h with
 | one h=>exact .more h (.one h')
 | more h _ ih=>exact .more h (ih h')
theorem pP {i:Nat}:∀ (p:Nat) (acc:List Nat),(∀ x∈acc,Path ops i x)->∀ x∈xv ops p acc,Path ops i x
 | 0,_,h=>h
 | p+1,acc,h=>by
  unfold xv;refine pP p _ ?_;split
  ·rename_i hp;intro x hx;rcases Uz.1 hx with hx | hx
   ·exact (h p (by simpa using hp)).snoc hx
   ·exact h x hx
  ·exact h
theorem AX {i x:Nat} (h:x∈HZ ops i):Path ops i x:=pP i _ (fun _ hx=>.one hx) x h
def nk (ops:Array Oper) (listed:Array Bool):Prop:=∀ l,listed.getD l false=true->∀ p∈lS ops l,listed.getD p false=true
theorem mF {j:Nat}{listed:Array Bool} (hj:j∈Region.ready md ops listed):∀ p∈lS ops j,listed.getD p false=true:=by
 obtain ⟨_,o,ho,al⟩:=mem_ready.1 hj;intro p hp;simp only [lS,ho,UM,U6] at hp;obtain ⟨e,⟨he,hb⟩,rfl⟩:=hp;exact al e (by simpa using he) hb
theorem vc {listed:Array Bool} (hc:nk ops listed){i j:Nat} (h:Path ops i j):(∀ p∈lS ops i,listed.getD p false=true)->listed.getD j false=true:=by
 induction h with
 | one h=>exact fun hi=>hi _ h
 | more h _ ih=>exact fun hi=>ih (hc _ (hi _ h))
theorem nk.step {listed:Array Bool} (hc:nk ops listed){j:Nat} (hj:j∈Region.ready md ops listed):nk ops (listed.setIfInBounds j true):=by
 intro l hl p hp;by_cases h:j=l
 ·subst h;exact getD_set_true (mF hj p hp)
 ·rw [getD_set_ne false h] at hl;exact getD_set_true (hc l hl p hp)
abbrev Ob:=List (Nat × (World->Prop))
def eE (ops:Array Oper) (O:Ob) (i:Nat):Ob:=O.filter fun p=>!(HZ ops i).contains p.1
def IE (O:Ob) (w:World):Prop:=∀ p∈O,p.2 w
theorem iG {O:Ob}{i:Nat}:∀ p∈eE ops O i,p∈O:=fun _ hp=>(U6.1 hp).1
def gv (P:Program) (ops:Array Oper) (Q:Exit->Act->World->Prop):Nat->Ob->Array Bool->Act->World->Prop
 | 0,_,listed,a,w=>Region.ready md ops listed=[]∧Q .normal a w
 | fuel+1,O,listed,a,w =>
  (Region.ready md ops listed=[]->Q .normal a w) ∧
  ∀ i∈Region.ready md ops listed,wpOp P ops Q i (fun a' w'=>IE (eE ops O i) w'∧gv P ops Q fuel (eE ops O i) (listed.setIfInBounds i true) a' w') a w
theorem pJ:∀ (fuel:Nat) (O:Ob) (listed:Array Bool) (a:Act) (w:World),gv P ops Q fuel O listed a w->wpAny P md ops Q fuel listed a w
 | 0,_,_,_,_,h=>h
 | fuel+1,_,_,_,_,h=>⟨h.1,fun i hi=>wpOp_mono (fun a' w' h'=>pJ fuel _ _ a' w' h'.2) (h.2 i hi)⟩
theorem km:∀ (fuel:Nat) (O O':Ob) (listed:Array Bool) (a:Act) (w:World),(∀ p∈O',p∈O)->gv P ops Q fuel O listed a w->gv P ops Q fuel O' listed a w
 | 0,_,_,_,_,_,_,h=>h
 | fuel+1,O,O',listed,a,w,hs,h=>by
  have w5:∀ i,∀ p∈eE ops O' i,p∈eE ops O i:=fun i p hp=>by
   obtain ⟨h1,h2⟩:=U6.1 hp;exact U6.2 ⟨hs p h1,h2⟩
  exact ⟨h.1,fun i hi=>wpOp_mono (fun a' w' h'=>⟨fun p hp=>h'.1 p (w5 i p hp),km fuel _ _ _ a' w' (w5 i) h'.2⟩) (h.2 i hi)⟩
theorem tt {i:Nat}{oi:Oper}{v:Value}{S:World->Prop} (hi:ops[i]?=some oi) (A2:∀ (j:Nat) (o:Oper) cs b,ops[j]?=some o->o.op≠.select cs b)
  (hQ:∀ c a w,Q (.panic c) (a.put oi.dst v) w->Q (.panic c) a w) :
  ∀ (fuel:Nat) (O:Ob) (listed:Array Bool) (a:Act) (w:World),
   (∀ j oj,ops[j]?=some oj->j≠i->listed.getD j true=false->(∀ e∈oj.after,Region.binds md e=true->e.on≠i)->oi.apart ops oj=true) ->
   nk ops listed->i∈Region.ready md ops listed->YieldsIf P ops S oi v a->S w->IE O w ->
   gv P ops Q fuel ((i,S) :: O) (listed.setIfInBounds i true) (a.put oi.dst v) w->gv P ops Q (fuel+1) O listed a w:=by
 intro fuel
 induction fuel with
 | zero =>
  intro O listed a w _ _ hr hy hS hO H;refine ⟨fun h=>(by rw [h] at hr;cases hr),fun j hj=>?_⟩;by_cases D4:j=i
  ·subst D4;exact hy.wpOp hi hS ⟨fun p hp=>hO p (iG p hp),H⟩
  ·have:=ready_mono hj D4;rw [H.1] at this;cases this
 | succ fuel ih =>
  intro O listed a w Jr r0 hr hy hS hO H;refine ⟨fun h=>(by rw [h] at hr;cases hr),fun j hj=>?_⟩;by_cases D4:j=i
  ·subst D4;exact hy.wpOp hi hS ⟨fun p hp=>hO p (iG p hp),km _ _ _ _ _ _ (fun p hp=>Vb _ (iG p hp)) H⟩
  ·have h1:=H.2 j (ready_mono hj D4);obtain ⟨Nj,oj,Pg,al⟩:=mem_ready.1 hj;have Nk:listed.getD i false=false:=by
    have h0:=(mem_ready.1 hr).1;rcases Vp i listed.size with h' | h'
    ·simp [h'] at h0 ⊢;exact h0
    ·simp [Ve h']
   have Ph:∀ e∈oj.after,Region.binds md e=true->e.on≠i:=fun e he hb heq=>by
    have h1:=al e he hb;rw [heq,Nk] at h1;cases h1
   have Sj:(HZ ops j).contains i=false:=by
    cases hc:(HZ ops j).contains i with
    | false=>rfl
    | true =>
     have:=vc r0 (AX (by simpa using hc)) (mF hj);rw [Nk] at this;cases this
   have Md:eE ops ((i,S) :: O) j=(i,S) :: eE ops O j:=by
    unfold eE;rw [List.filter_cons_of_pos (by simpa using Sj)]
   rw [Md] at h1;have h2:=wpOp_putIf Pg (Jr j oj Pg D4 Nj Ph) (fun cs b=>A2 i oi cs b hi) (fun cs b=>A2 j oj cs b Pg) hQ hy h1;have Me:∀ k ok,ops[k]?=some ok->k≠i->(listed.setIfInBounds j true).getD k true=false ->
     (∀ e∈ok.after,Region.binds md e=true->e.on≠i)->oi.apart ops ok=true:=fun k ok hk Sk Rq tc=>by
    refine Jr k ok hk Sk ?_ tc;by_cases JQ:j=k
    ·subst JQ;exact Nj
    ·rw [getD_set_ne true JQ] at Rq;exact Rq
   refine wpOp_mono (fun a' w' h3=>?_) h2;have Lg:IE (eE ops O j) w':=fun p hp=>h3.2.1 p (Vb _ hp);refine ⟨Lg,ih (eE ops O j) (listed.setIfInBounds j true) a' w' Me (r0.step hj) (ready_mono hr (V5 D4)) h3.1 (h3.2.1 (i,S) (by simp)) Lg ?_⟩;rw [Array.setIfInBounds_comm _ _ D4];exact h3.2.2
def ww (cj:List (Nat × List (Addr × Value))):Ob:=cj.map fun h=>(h.1,fun w=>iP h.2 w.heap)
theorem tD (cj:List (Nat × List (Addr × Value))) (i:Nat):eE ops (ww cj) i=ww (nC ops i cj):=by
 unfold eE ww nC;rw [List.filter_map];rfl
theorem mG {cj:List (Nat × List (Addr × Value))}{w:World}:Holds cj w.heap↔IE (ww cj) w:=by
 induction cj with
 | nil=>exact ⟨fun _ p hp=>by simp [ww] at hp,fun _=>trivial⟩
 | cons h r ih =>
  obtain ⟨i,l⟩:=h;constructor
  ·rintro ⟨h1,h2⟩ p hp;rcases Us.1 hp with rfl | hp
   ·exact h1
   ·exact ih.1 h2 p hp
  ·intro h;exact ⟨h _ (V6 ..),ih.2 fun p hp=>h p (Vb _ hp)⟩
theorem pj:∀ {l:List Nat}{p:Nat->Prop},wK l p->∀ i∈l,p i
 | [],_,_,_,hi=>by simp at hi
 | [i],_,h,j,hj=>by simp at hj;subst hj;exact h
 | i :: k :: r,_,h,j,hj=>by
  rcases Us.1 hj with rfl | hj
  ·exact h.1
  ·exact pj h.2 j hj
theorem wZ {P:Program}{ops:Array Oper}{Q':Exit->Act->World->Prop}{i:Nat}:∀ (n:Nat) (O:Ob) (listed:Array Bool) (a:Act) (w:World),gv P ops Q' n O listed a w->gv P ops Q' n ((i,fun _=>True) :: O) listed a w
 | 0,_,_,_,_,h=>h
 | n+1,O,listed,a,w,h=>by
  refine ⟨h.1,fun j hj=>wpOp_mono (fun a' w' h'=>?_) (h.2 j hj)⟩;have ap:∀ p∈eE ops ((i,fun _=>True) :: O) j,p∈(i,fun _=>True) :: eE ops O j:=fun p hp=>by
   obtain ⟨h1,h2⟩:=U6.1 hp;rcases Us.1 h1 with rfl | h1
   ·exact V6 ..
   ·exact Vb _ (U6.2 ⟨h1,h2⟩)
  refine ⟨fun p hp=>?_,km _ _ _ _ _ _ ap (wZ n _ _ a' w' h'.2)⟩;rcases Us.1 (ap p hp) with rfl | hp
  ·trivial
  ·exact h'.1 p hp
theorem fN {P:Program} (hP:GoodPg P){ops:Array Oper}{Q:Act->ag->Prop}{Q':Exit->Act->World->Prop}{ws:List Nat} (hZ:∀ (i:Nat) (o:Oper),ops[i]?=some o->∀ d,o.dst=some d->d∈ws)
  (A2:Region.noSelect ops=true){dr:List Deferred} (hQ:∀ c a w,¬ Q' (.panic c) a w):∀ (n:Nat) (listed:Array Bool) (cj:List (Nat × List (Addr × Value))) (a:Act) (w:World),
  nk ops listed->Holds cj w.heap->ip P ops Q n listed cj a w.heap->(∀ a' w',Q a' w'.heap->cO w w'->co ws true a a'->Q' .normal (Act.re a' dr) w')->gv P ops Q' n (ww cj) listed (Act.re a dr) w
 | 0,listed,cj,a,w,_,_,h,hk=>by
  simp only [ip] at h;split at h
  ·rename_i hr;exact ⟨by simpa using hr,hk a w h (cO.refl w) (co.refl ws true a)⟩
  ·exact h.elim
 | n+1,listed,cj,a,w,r0,Js,h,hk=>by
  simp only [ip] at h;split at h
  ·rename_i i hq;split at h
   ·rename_i o Jr ho;have hd:∀ d,o.dst=some d->d∈ws:=hZ i o ho;have Pi:i∈Region.ready md ops listed:=List.mem_of_find?_eq_some hq;have take:∀ (v:Value) (S:World->Prop) (r8:List (Nat × List (Addr × Value))),(∀ p∈ww r8,p∈(i,S) :: ww cj)->gv P ops Q' n ((i,S) :: ww cj) (listed.setIfInBounds i true) (Act.re (a.put o.dst v) dr) w->YieldsIf P ops S o v (Act.re a dr)->S w->gv P ops Q' (n+1) (ww cj) listed (Act.re a dr) w :=
     fun v S r8 _ H hy hS=>tt ho (Region.noSelect_spec A2) (fun c a w h=>(hQ c _ w h).elim) n (ww cj) listed (Act.re a dr) w (Region.free_spec ho Jr) r0 Pi hy hS (mG.1 Js) (by rw [lm];exact H)
    have rest:∀ (v:Value) (r8:List (Nat × List (Addr × Value))),Holds r8 w.heap->ip P ops Q n (listed.setIfInBounds i true) r8 (a.put o.dst v) w.heap->gv P ops Q' n (ww r8) (listed.setIfInBounds i true) (Act.re (a.put o.dst v) dr) w :=
     fun v r8 hh hv=>fN hP hZ A2 hQ n _ r8 _ w (r0.step Pi) hh hv fun a' w'' hq hs dv=>hk a' w'' hq hs ((co.put hd).trans dv)
    have plain:∀ (v:Value),YieldsIf P ops (fun _=>True) o v (Act.re a dr)->ip P ops Q n (listed.setIfInBounds i true) cj (a.put o.dst v) w.heap->gv P ops Q' (n+1) (ww cj) listed (Act.re a dr) w:=by
     intro v hy hv;refine take v (fun _=>True) ((i,[]) :: cj) (fun p hp=>?_) ?_ hy trivial
     ·rcases Us.1 hp with rfl | hp
      ·exact V6 ..
      ·exact Vb _ hp
     ·have:=fN hP hZ A2 hQ n (listed.setIfInBounds i true) cj (a.put o.dst v) w (r0.step Pi) Js hv fun a' w'' hq hs dv=>hk a' w'' hq hs ((co.put hd).trans dv);exact wZ n (ww cj) (listed.setIfInBounds i true) _ w this
    rcases jG h with ⟨hw,hy⟩ | ⟨hw,hn⟩
    ·split at hy
     ·obtain ⟨v,hv,hr⟩:=lL hy;exact plain v (.inl ⟨hw,fun w _=>by rw [ie];exact hr w⟩) hv
     ·rename_i LI;split at hy
      ·rename_i t x sa;split at hy
       ·rename_i ad hx;obtain ⟨v,cs,hv,hc,hr⟩:=kl hy;refine take v (fun w=>iP cs w.heap) ((i,cs) :: cj) (fun p hp=>hp) (rest v ((i,cs) :: cj) ⟨hc,Js⟩ hv) (.inl ⟨hw,fun w' lr=>?_⟩) hc;obtain ⟨dst,op,type,pos,after,guard⟩:=o;simp only at sa;subst sa;refine rW ?_;simp only [ie,hx,Instr.loadAt,Instr.sureAddr,Sem.run_bind,Sem.run_pure,Result.andThen_ok];exact hr w' lr
       ·exact hy.elim
      ·exact hy.elim
    ·exact plain undef (.inr ⟨hw,rfl⟩) hn
   ·exact h.elim
  ·split at h
   ·rename_i hr;refine ⟨fun _=>hk a w h (cO.refl w) (co.refl ws true a),fun i hi=>?_⟩;rw [show Region.ready md ops listed=[] from hr] at hi;cases hi
   ·rename_i b9;refine ⟨fun hr=>absurd hr b9,fun i hi=>?_⟩;have k8:=pj h i hi;have Nl:=r0.step hi;split at k8
    ·rename_i o ho;have hd:∀ d,o.dst=some d->d∈ws:=hZ i o ho;rw [tD];unfold wpOp;simp only [ho];rcases jG k8 with ⟨hw,hy⟩ | ⟨hw,hn⟩
     ·rw [Ur hw];refine .inl (pF hP (a:=Act.re a dr) (by rw [ie];exact hy) fun v w' hv hs=>?_);rw [lm];exact ⟨mG.1 hv.1,fN hP hZ A2 hQ n _ _ _ w' Nl hv.1 hv.2 fun a' w'' hq w5 dv=>hk a' w'' hq (hs.trans w5) ((co.put hd).trans dv)⟩
     ·rw [Uq (by simp [hw])];have hh:Holds (nC ops i cj) w.heap:=mG.2 fun p hp=>mG.1 Js p (by rw [←tD] at hp;exact iG p hp);rw [lm];exact ⟨mG.1 hh,fN hP hZ A2 hQ n _ _ _ w Nl hh hn fun a' w'' hq w5 dv=>hk a' w'' hq w5 ((co.put hd).trans dv)⟩
    ·exact k8.elim
end
def CW:Exit->Prop
 | .panic _ | .outgrown=>False
 | _=>True
def Gv (Q:pm) (c:Code) (m:Nat) (a:Act) (l:List Nat) (w:World):Exit->Act->World->Prop:=fun e ar w' =>
 CW e∧∃ a' l',ar=Act.re a' ar.defers∧Q e a' w'.heap∧cO w w'∧co (dO c) (cd c) a a'∧MixD m w'.heap ar.defers a'.defers l'∧(cI c=true->l'=l)
theorem Act.ext' {a b:Act} (h1:a.tmps=b.tmps) (h2:a.defers=b.defers):a=b:=by
 cases a;cases b;simp only at h1 h2;subst h1;subst h2;rfl
theorem tg {a:Act}{i:Nat} (h:i<a.tmps.size):a.tmps[i]?=some (a.tmps.getD i undef):=by
 simp [h]
theorem nL {ws:List Nat}{a':Act}:∀ (l:List Nat) (b:Act),(∀ i∈l,i∈ws)->co ws true a' b ->
  co ws true a' (tu b l fun i=>a'.tmps.getD i undef)∧∀ i,(i∈l∨b.tmps[i]?=a'.tmps[i]?)->(tu b l fun i=>a'.tmps.getD i undef).tmps[i]?=a'.tmps[i]?
 | [],b,_,hk=>⟨hk,fun i hi=>hi.resolve_left (by simp)⟩
 | j :: l,b,hl,hk=>by
  have dn:co ws true a' (b.put (some j) (a'.tmps.getD j undef)):=hk.trans (co.put (by rintro d ⟨⟩;exact hl j (by simp)));obtain ⟨h1,h2⟩:=nL l (b.put (some j) (a'.tmps.getD j undef)) (fun i hi=>hl i (by simp [hi])) dn;refine ⟨h1,fun i hi=>h2 i ?_⟩;by_cases Pj:i=j
  ·subst Pj;right;simp only [Act.put];by_cases aa:i<a'.tmps.size
   ·rw [Array.getElem?_setIfInBounds_self_of_lt (by rw [hk.1];exact aa)];exact (tg aa).symm
   ·have e1:a'.tmps[i]?=none:=Ve (by omega);have e2:(b.tmps.setIfInBounds i (a'.tmps.getD i undef))[i]?=none:=Ve (by rw [Array.size_setIfInBounds,hk.1];omega);rw [e1];exact e2
  ·rcases hi with hi | hi
   ·rcases Us.1 hi with rfl | hi
    ·exact absurd rfl Pj
    ·exact .inl hi
   ·right;simp only [Act.put];rw [Vk (V5 Pj)];exact hi
theorem zi {ws:List Nat}{a a':Act} (h:co ws true a a'):tu a ws (fun i=>a'.tmps.getD i undef)=a':=by
 have hk:co ws true a' a:=⟨h.1.symm,fun _=>(h.2.1 rfl).symm,fun i hi=>(h.2.2 i hi).symm⟩;obtain ⟨h1,h2⟩:=nL (a':=a') ws a (fun _ hi=>hi) hk;refine Act.ext' ?_ (h1.2.1 rfl);apply Array.ext_getElem?;intro i;by_cases hi:i∈ws
 ·exact h2 i (.inl hi)
 ·exact h2 i (.inr (h.2.2 i hi).symm)
theorem nP {a:Act}:∀ {ps:List (Nat × Value)},(∀ p∈ps,p.2=a.tmps.getD p.1 undef)->oZ a ps=a
 | [],_=>rfl
 | (t,v) :: r,h=>by
  have h0:v=a.tmps.getD t undef:=h (t,v) (by simp)
  have:a.put (some t) v=a:=by
   by_cases ht:t<a.tmps.size
   ·exact i6 (by rw [h0];exact tg ht)
   ·refine Act.ext' ?_ rfl;simp only [Act.put,Array.setIfInBounds];rw [dif_neg ht]
  show oZ (a.put (some t) v) r=a;rw [this];exact nP fun p hp=>h p (by simp [hp])
theorem lH {P:Program}:∀ {L:List (Nat × TypeId)}{k:List (Nat × Value)->Prop},ss P L k->∃ ps,ps.map (·.1)=L.map (·.1)∧k ps
 | [],_,h=>⟨[],rfl,h⟩
 | (t,ty) :: r,k,h=>by
  obtain ⟨v,h⟩:=mD h;obtain ⟨ps,hp,h⟩:=lH h;exact ⟨_,by simp [hp],h⟩
theorem nU {a':Act}:∀ {L:List (Nat × TypeId)}{ps:List (Nat × Value)},ps.map (·.1)=L.map (·.1)->eW a' L=ps.map (·.2)->∀ p∈ps,p.2=a'.tmps.getD p.1 undef
 | [],[],_,_,p,hp=>by simp at hp
 | _ :: _,[],h,_,_,_=>by simp at h
 | [],_ :: _,h,_,_,_=>by simp at h
 | (t,ty) :: L,(s,v) :: ps,h,h',p,hp=>by
  simp only [U8,List.cons.injEq] at h;simp only [eW,U8,List.cons.injEq] at h';rcases Us.1 hp with rfl | hp
  ·simp only [h.1,h'.1]
  ·exact nU h.2 h'.2 p hp
theorem kS {P:Program}{ws:List Nat}{L:List (Nat × TypeId)}{a a':Act}{K:Act->ag->Prop}{H:ag} (h:qe P ws L a K (eW a' L) H) (hk:co ws true a a'):K a' H:=by
 obtain ⟨ps,hp,hs,h⟩:=lH (h fun i=>a'.tmps.getD i undef);rw [zi hk,nP (nU hp hs)] at h;exact h
theorem ma {r:Option Nat}{c c':Code} (h:r=none∨(dI c=true∧cd c=true)) (h1:dI c=true->dI c'=true) (h2:cd c=true->cd c'=true):r=none∨(dI c'=true∧cd c'=true) :=
 h.imp id fun h=>⟨h1 h.1,h2 h.2⟩
theorem rG {Q:Nat->ag->Prop}:∀ {l:List Nat}{id:Nat}{H:ag},xO (l.map fun i=>(i,Q i)) id H->Q id H
 | [],_,_,h=>h.elim
 | i :: l,id,H,h=>by
  simp only [U8,xO] at h;split at h
  ·rename_i e;rw [of_decide_eq_true e];exact h
  ·exact rG h
theorem dZ {P:Program} (hP:GoodPg P){Ls:wa}{r:Option Nat}{m:Nat}:∀ (c:Code) (Q:pm) (a:Act) (dr:List Deferred) (l:List Nat) (w:World),(r=none∨(dI c=true∧cd c=true))->m<=w.heap.size->MixD m w.heap dr a.defers l ->
  ev P Ls c Q a w.heap->c.wpIn (FR r) 0 P (Gv Q c m a l w) (Act.re a dr) w
 | .skip,Q,a,dr,l,w,_,_,hm,h=>wpIn_skip ⟨trivial,a,l,rfl,h,cO.refl w,co.refl _ _ a,hm,fun _=>rfl⟩
 | .label _,Q,a,dr,l,w,_,_,hm,h=>wpIn_label ⟨trivial,a,l,rfl,h,cO.refl w,co.refl _ _ a,hm,fun _=>rfl⟩
 | .region id ops draw,Q,a,dr,l,w,hr,_,hm,h=>by
  have hZ:∀ (i:Nat) (o:Oper),ops[i]?=some o->∀ d,o.dst=some d->d∈dO (.region id ops draw):=fun i o ho d hd =>
   List.mem_filterMap.2 ⟨o,by simpa using Array.mem_of_getElem? ho,hd⟩
  simp only [ev] at h;split at h
  ·refine wpIn_region_list (kz hP ops.toList a dr w (fun o ho d hd=>List.mem_filterMap.2 ⟨o,ho,hd⟩) (hr.imp (fun h=>h) fun h=>h.2) hm h ?_);exact fun a' dr' w' hq hs hk w7=>⟨trivial,a',l,rfl,hq,hs,hk,w7,fun _=>rfl⟩
  ·have Nh:r=none:=hr.resolve_right (by simp [dI]);subst Nh;split at h
   ·rename_i A2;refine wpIn_wide.2 (wp_region_any hP.mixed (pJ _ (ww []) _ _ _ ?_));refine fN hP hZ A2 (dr:=dr) (fun c a w h=>h.1) ops.size _ [] a { w with drawn:=w.drawn+1 } ?_ trivial h ?_
    ·intro l hl;by_cases aa:l<ops.size <;> simp [aa] at hl
    ·exact fun a' w' hq hs hk=>⟨trivial,a',l,rfl,hq,⟨hs.1,hs.2.1,hs.2.2.1,Ux (VO _) hs.2.2.2.1,hs.2.2.2.2⟩,hk.mono (fun _ hi=>hi) (fun _=>rfl),by rw [hk.2.1 rfl];exact hm.keep hs.2.2.2.2,fun _=>rfl⟩
   ·exact h.elim
 | .seq x y,Q,a,dr,l,w,hr,hsz,hm,h=>by
  have hx:∀ i∈dO x,i∈dO (.seq x y):=fun i hi=>Vx _ hi;have hy:∀ i∈dO y,i∈dO (.seq x y):=fun i hi=>VV _ hi;have dx:cd (.seq x y)=true->cd x=true:=fun h=>by simp only [cd,U3] at h;exact h.1
  have dy:cd (.seq x y)=true->cd y=true:=fun h=>by simp only [cd,U3] at h;exact h.2
  have rx:cI (.seq x y)=true->cI x=true:=fun h=>by simp only [cI,U3] at h;exact h.1
  have ry:cI (.seq x y)=true->cI y=true:=fun h=>by simp only [cI,U3] at h;exact h.2
  have OL:=ma (c':=x) hr (fun h=>by simp only [dI,U3] at h;exact h.1) dx;have OM:=ma (c':=y) hr (fun h=>by simp only [dI,U3] at h;exact h.2) dy;simp only [ev] at h;split at h
  ·refine wpIn_seq (wpIn_mono (dZ hP x _ a dr l w OL hsz hm h) ?_);rintro e ar w' ⟨hp,a',l',ha,hq,hs,hk,w7,hl⟩;cases e with
   | normal =>
    rw [ha];refine wpIn_mono (dZ hP y Q a' ar.defers l' w' OM (Ux hsz hs.2.2.2.2.1) w7 hq) ?_;rintro e ar' w'' ⟨J3,a'',l'',Ja,J4,w5,dn,Jz,t6⟩;exact ⟨J3,a'',l'',Ja,J4,hs.trans w5,(hk.mono hx dx).trans (dn.mono hy dy),Jz,fun h=>(t6 (ry h)).trans (hl (rx h))⟩
   | panic c=>exact hp.elim
   | outgrown=>exact hp.elim
   | _=>exact ⟨trivial,a',l',ha,hq,hs,hk.mono hx dx,w7,fun h=>hl (rx h)⟩
  ·rename_i L hL;split at h
   ·rename_i hnd;obtain ⟨J,h1,h2⟩:=h;refine wpIn_seq (wpIn_mono (dZ hP x _ a dr l w OL hsz hm h1) ?_);rintro e ar w' ⟨hp,a',l',ha,hq,hs,hk,w7,hl⟩;cases e with
    | normal =>
     rw [ha];have J4:=kS (h2 _ _ hq) (hk.mono (fun _ hi=>hi) fun _=>hnd);refine wpIn_mono (dZ hP y Q a' ar.defers l' w' OM (Ux hsz hs.2.2.2.2.1) w7 J4) ?_;rintro e ar' w'' ⟨J3,a'',l'',Ja,J4,w5,dn,Jz,t6⟩;exact ⟨J3,a'',l'',Ja,J4,hs.trans w5,(hk.mono hx dx).trans (dn.mono hy dy),Jz,fun h=>(t6 (ry h)).trans (hl (rx h))⟩
    | panic c=>exact hp.elim
    | outgrown=>exact hp.elim
    | _=>exact ⟨trivial,a',l',ha,hq,hs,hk.mono hx dx,w7,fun h=>hl (rx h)⟩
   ·exact h.elim
 | .cond c x y,Q,a,dr,l,w,hr,hsz,hm,h=>by
  have hx:∀ i∈dO x,i∈dO (.cond c x y):=fun i hi=>Vx _ hi;have hy:∀ i∈dO y,i∈dO (.cond c x y):=fun i hi=>VV _ hi;have dx:cd (.cond c x y)=true->cd x=true:=fun h=>by simp only [cd,U3] at h;exact h.1
  have dy:cd (.cond c x y)=true->cd y=true:=fun h=>by simp only [cd,U3] at h;exact h.2
  have rx:cI (.cond c x y)=true->cI x=true:=fun h=>by simp only [cI,U3] at h;exact h.1
  have ry:cI (.cond c x y)=true->cI y=true:=fun h=>by simp only [cI,U3] at h;exact h.2
  have OL:=ma (c':=x) hr (fun h=>by simp only [dI,U3] at h;exact h.1) dx;have OM:=ma (c':=y) hr (fun h=>by simp only [dI,U3] at h;exact h.2) dy;simp only [ev] at h;split at h
  ·rename_i b hb;have same:∀ t,c=.tmp t->a.put (some t) (.bool b)=a:=by
    rintro t rfl;refine i6 ?_;simp only [Act.eval] at hb;by_cases ht:t<a.tmps.size
    ·rw [tg ht,hb]
    ·have:a.tmps.getD t undef=undef:=by simp [ht]
     rw [this] at hb;cases hb
   have h:cond b (ev P Ls x Q a w.heap) (ev P Ls y Q a w.heap):=by
    cases c with
    | tmp t =>
     have e:=same t rfl;cases b
     ·simp only [e,Ut] at h ⊢;exact h
     ·simp only [e,UK] at h ⊢;exact h
    | _=>exact h
   have b8:(Act.re a dr).eval c=.bool b:=by rw [ie];exact hb
   cases b
   ·exact wpIn_cond_false b8 (wpIn_mono (dZ hP y Q a dr l w OM hsz hm h) fun e ar w' ⟨h1,a',l',h2,h3,h4,h5,h6,h7⟩=>⟨h1,a',l',h2,h3,h4,h5.mono hy dy,h6,fun h=>h7 (ry h)⟩)
   ·exact wpIn_cond_true b8 (wpIn_mono (dZ hP x Q a dr l w OL hsz hm h) fun e ar w' ⟨h1,a',l',h2,h3,h4,h5,h6,h7⟩=>⟨h1,a',l',h2,h3,h4,h5.mono hx dx,h6,fun h=>h7 (rx h)⟩)
  ·exact h.elim
 | .block id b,Q,a,dr,l,w,hr,hsz,hm,h=>by
  simp only [ev] at h;refine wpIn_block (wpIn_mono (dZ hP b _ a dr l w hr hsz hm h) ?_);rintro e ar w' ⟨hp,a',l',ha,hq,hs,hk,w7,hl⟩;cases e with
  | exit id' =>
   simp only [uL] at hq;simp only [Exit.inBlock];split at hq
   ·rename_i Pk;rw [Ur (of_decide_eq_true Pk)];exact ⟨trivial,a',l',ha,hq,hs,hk,w7,hl⟩
   ·rename_i Pk;rw [Uq (of_decide_eq_false Pk)];exact ⟨trivial,a',l',ha,hq,hs,hk,w7,hl⟩
  | panic c=>exact hp.elim
  | outgrown=>exact hp.elim
  | _=>exact ⟨trivial,a',l',ha,hq,hs,hk,w7,hl⟩
 | .loop b,Q,a,dr,l,w,hr,hsz,hm,h=>by
  simp only [ev] at h;split at h
  ·exact h.elim
  ·rename_i L hL;split at h
   ·rename_i hnd;obtain ⟨I,μ,h0,h⟩:=h;refine wpIn_loop (fun ar w'=>∃ a' l',ar=Act.re a' ar.defers∧I (eW a' L) w'.heap∧cO w w'∧co (dO b) true a a'∧MixD m w'.heap ar.defers a'.defers l'∧(cI b=true->l'=l)) (fun ar w'=>μ (eW ar L) w'.heap) ⟨a,l,rfl,h0,cO.refl w,co.refl _ _ a,hm,fun _=>rfl⟩ ?_;rintro ar w' ⟨a',l',ha,hI,hs,hk,w7,hl⟩;have hb:=kS (h _ _ hI) hk;have hw:=dZ hP b _ a' ar.defers l' w' hr (Ux hsz hs.2.2.2.2.1) w7 hb;rw [←ha] at hw;refine wpIn_mono hw ?_;rintro e ar' w'' ⟨J3,a'',l'',Ja,J4,w5,dn,Jz,t6⟩;have JR:co (dO b) true a' a'':=dn.mono (fun _ hi=>hi) fun _=>hnd;cases e with
    | normal =>
     refine ⟨⟨a'',l'',Ja,J4.1,hs.trans w5,hk.trans JR,Jz,fun h=>(t6 h).trans (hl h)⟩,?_⟩;have e1:eW ar' L=eW a'' L:=by rw [Ja];rfl
     have e2:eW ar L=eW a' L:=by rw [ha];rfl
     rw [e1,e2];exact J4.2
    | panic c=>exact J3.elim
    | outgrown=>exact J3.elim
    | _=>exact ⟨trivial,a'',l'',Ja,J4,hs.trans w5,(hk.trans JR).mono (fun _ hi=>hi) fun _=>rfl,Jz,fun h=>(t6 h).trans (hl h)⟩
   ·exact h.elim
 | .exit id,Q,a,dr,l,w,_,_,hm,h=>wpIn_exit ⟨trivial,a,l,rfl,h,cO.refl w,co.refl _ _ a,hm,fun _=>rfl⟩
 | .ret,Q,a,dr,l,w,_,_,hm,h=>wpIn_ret ⟨trivial,a,l,rfl,h,cO.refl w,co.refl _ _ a,hm,fun _=>rfl⟩
 | .rangeFunc g ps assign body,Q,a,dr,l,w,hr,hsz,hm,h=>by
  have Nh:r=none:=hr.resolve_right (by simp [dI]);subst Nh;simp only [ev] at h;split at h
  ·rename_i gf first lb hg
   refine wpIn_rangeFunc ?_;intro fn _;obtain ⟨⟨f',ca,nf⟩,hc⟩:=h fn;have hc:=hc { w with heap:=(w.heap.push (.deferred (some []))).push (.loop (kL fn a.tmps ps assign body w.heap.size)) } rfl;obtain ⟨W1,Pm⟩:∃ W1:World,W1={ w with heap:=(w.heap.push (.deferred (some []))).push (.loop (kL fn a.tmps ps assign body w.heap.size)) }:=⟨_,rfl⟩;rw [←Pm] at hc;refine ⟨w.heap.size+1,[⟨.collected w.heap.size,#[]⟩],W1,⟨.fn (.func gf) lb,first++#[.func (.yield (w.heap.size+1)) #[] #[]]⟩,W1,gf,(first++#[.func (.yield (w.heap.size+1)) #[] #[]])++lb,W1,(by rw [Pm];exact run_enterLoop_outer fn a.tmps ps assign body),?_,fun _ _=>trivial,?_,fun h=>(by cases h),?_⟩
   ·have Sl:(Act.re a dr).eval g=.func (.func gf) first lb:=by rw [ie];exact hg
    simp only [resolve,Sl,Deferred.ofValue,Sem.run_pure];simp only [List.map_toArray,U8,VP];rfl
   ·exact ju hP ca nf ((first++#[.func (.yield (w.heap.size+1)) #[] #[]])++lb) _
   ·refine pX (r:=none) (hc.mono ?_);rintro e w3 ⟨v,rfl,hq,hs⟩;obtain ⟨rr,Mf,Sm,hj⟩:=hq;rw [Pm] at hs;have Sn:cO w w3:=(cO.heap (w:=w) ((dg.push _ _).trans (dg.push _ _))).trans hs;obtain ⟨o,ho⟩:∃ o,o=({ rr with state:=.exhausted }:Loop):=⟨_,rfl⟩;have F6:=run_endLoop (P:=P) Mf Sm;simp only [←ho] at hj F6;have JS:dg w3.heap (w3.heap.setIfInBounds (w.heap.size+1) (.loop o)):=dg.setObj Mf (by simp);have MV:cO w (w3.putObj (w.heap.size+1) (.loop o)):=Sn.trans (cO.heap (w:=w3) JS);have hD:w3.heap[w.heap.size]?=some (.deferred (some [])):=hs.2.2.2.2.2 _ _ (by
     show ((w.heap.push (.deferred (some []))).push (.loop (kL fn a.tmps ps assign body w.heap.size)))[w.heap.size]?=_;rw [VS,Uq (by simp),Wl])
    have Mg:MixD m (w3.putObj (w.heap.size+1) (.loop o)).heap (⟨.collected w.heap.size,#[]⟩ :: dr) a.defers (w.heap.size :: l) :=
     .mark (JS.2 _ _ hD) hsz (fun JA=>by have:=(hm.lt _ JA).2;rw [Ve (UI _)] at this;cases this) (hm.keep MV.2.2.2.2)
    refine ⟨rr.pending,_,F6,?_⟩;split at hj
    ·rename_i hp;simp only [hp];exact ⟨trivial,a,_,rfl,hj,MV,co.refl _ _ a,Mg,fun h=>by cases h⟩
    ·rename_i hp;simp only [hp];exact wpIn_ret ⟨trivial,a,_,rfl,hj,MV,co.refl _ _ a,Mg,fun h=>by cases h⟩
    ·rename_i id hp;simp only [hp];exact wpIn_exit ⟨trivial,a,_,rfl,rG (Q:=fun i=>Q (.exit i) a) hj,MV,co.refl _ _ a,Mg,fun h=>by cases h⟩
    ·exact hj.elim
  ·exact h.elim
 | .scope _,_,_,_,_,_,_,_,_,h=>h.elim
 | .goto _,_,_,_,_,_,_,_,_,h=>h.elim
 | .refuse _,_,_,_,_,_,_,_,_,h=>h.elim
def td (tmps:Array Value):ResultVar->Sem Value
 | .tmp t=>pure (tmps.getD t undef)
 | .cell a t=>do loadVar t (← asAddr (tmps.getD a undef))
theorem ng {P:Program}{a:Act}{w:World}:∀ {l:List ResultVar}{k:List Value->Prop},qA P a w.heap l k->∃ vs,k vs∧(l.mapM (td a.tmps)).run P w=.ok vs w
 | [],_,h=>⟨[],h,rfl⟩
 | .tmp t :: r,k,h=>by
  obtain ⟨vs,hk,hr⟩:=ng (l:=r) h;exact ⟨_,hk,by simp [List.mapM_cons,td,hr]⟩
 | .cell x t :: r,k,h=>by
  simp only [qA] at h;split at h
  ·rename_i ad hx;obtain ⟨v,cs,h,hc,I9⟩:=kl h;obtain ⟨vs,hk,hr⟩:=ng (l:=r) h;refine ⟨_,hk,?_⟩;rw [List.mapM_cons];simp only [Sem.run_bind,td,hx,asAddr,Sem.run_pure,Result.andThen_ok,I9 w hc,hr]
  ·exact h.elim
theorem oq {P:Program}{fn:Func}{a:Act}{w:World}{k:Value->Prop} (h:qA P a w.heap fn.results.toList fun vs=>match vs with
  | [v]=>k v
  | vs=>k (.tuple vs.toArray)):∃ v,k v∧(results fn a.tmps).run P w=.ok v w:=by
 obtain ⟨vs,hk,hr⟩:=ng h;have e:(results fn a.tmps)=(do let vs ← fn.results.mapM (td a.tmps);pure (if h:vs.size=1 then vs[0] else .tuple vs)):=by
  unfold results
  congr 1
 rw [e,Array.mapM_eq_mapM_toList];simp only [Sem.run_bind,Sem.run_map,hr,Result.andThen_ok,Sem.run_pure]
 match vs,hk with
 | [],hk=>exact ⟨_,hk,by simp⟩
 | [v],hk=>exact ⟨_,hk,by simp⟩
 | v :: u :: r,hk=>exact ⟨_,hk,by simp⟩
theorem tK {P:Program} (hP:GoodPg P){f:FuncId}{fn:Func} (hf:P.funcs[f]?=some fn){c:Code} (hc:fn.body=some c){Ls:wa}{args:Array Value}{Q:Value->ag->Prop}{H:ag}{X:Prop}
  (hX:X=ev P Ls c (I0 P fn Q) (mL fn args) H) (h:X) (hn:(cd c && cI c)=true:=by kernel_rfl):ae P f args Q H:=by
 rw [U3] at hn;refine ⟨⟨fn,hf,by rw [hc];rfl⟩,fun w hw=>?_⟩;subst hw;rw [hX] at h;have hs:=dZ hP (r:=none) (m:=w.heap.size) c _ (mL fn args) [] [] w (.inl rfl) (UI _) .nil h;refine calls_of_wp hf hc (wp_mono (wpIn_wide.1 hs) ?_);rintro e ar w' ⟨hp,a',l',ha,hq,hs,hk,hm,hl⟩;have t6:=hl hn.2;subst t6;have hd:a'.defers=[]:=hk.2.1 hn.1;have Md:ar.defers=[]:=by
  rw [hd] at hm;generalize ar.defers=ds at hm;cases hm;rfl
 have main:qA P a' w'.heap fn.results.toList (fun vs=>match vs with
  | [v]=>Q v w'.heap
  | vs=>Q (.tuple vs.toArray) w'.heap)->ar.defers=[]∧∃ v,(results fn ar.tmps).run P w'=.ok v w'∧(∃ v_1,Ending.returned v=.returned v_1∧Q v_1 w'.heap∧cO w w'):=by
  intro hq;obtain ⟨v,hv,hr⟩:=oq (k:=fun v=>Q v w'.heap) hq;rw [ha];exact ⟨Md,v,hr,v,rfl,hv,hs⟩
 cases e with
 | normal=>exact main hq
 | ret=>exact main hq
 | panic c=>exact hp.elim
 | outgrown=>exact hp.elim
 | exit id=>exact hq.elim
 | goto l=>exact hq.elim
theorem ku.refl (n:Nat) (H:ag):ku n H H:=⟨rfl,fun _=>.inl rfl⟩
theorem yf {P:Program} (hP:GoodPg P){fn:Func}{mk:Bool}{n:Nat}{tmps:Array Value}{Q:Value->ag->Prop}{w0:World}{k:Nat}{dr da:List Deferred}{l:List Nat}{H:ag} (hm:MixD n H dr da l):∀ (H0:ag) (w:World),w.heap=H->n=w0.heap.size->cO w0 w->ku n H0 H->(mk=false->l=[]∧H0=H)->jp P fn mk n tmps Q da H0 ->
  LeavesInM Fence.wide k P fn tmps (fun e w'=>∃ v,e=.returned v∧Q v w'.heap∧cO w0 w') dr .returning w:=by
 have fin:∀ (H0 H:ag) (w:World),w.heap=H->cO w0 w->ku n H0 H->(mk=false->H0=H)->jp P fn mk n tmps Q [] H0->LeavesInM Fence.wide k P fn tmps (fun e w'=>∃ v,e=.returned v∧Q v w'.heap∧cO w0 w') [] .returning w:=by
  intro H0 H w hw hs ll Mh h;subst hw;have h:qA P ⟨tmps,[]⟩ w.heap fn.results.toList (fun vs=>match vs with
   | [v]=>Q v w.heap
   | vs=>Q (.tuple vs.toArray) w.heap):=by
   unfold jp at h;cases mk with
   | true=>exact h _ ll
   | false=>rw [Mh rfl] at h;exact h
  obtain ⟨v,hv,hr⟩:=oq (a:=⟨tmps,[]⟩) (k:=fun v=>Q v w.heap) h;exact ⟨v,hr,v,rfl,hv,hs⟩
 have put:∀ {H:ag}{D:Nat}{ds:List Deferred},H[D]?=some (.deferred (some ds))->D<H.size:=fun h=>(UN.1 h).1
 induction dr generalizing da l H with
 | nil =>
  intro H0 w hw hn hs ll Mh h;cases hm;exact fin H0 H w hw hs ll (fun e=>(Mh e).2) h
 | cons d dr ih =>
  intro H0 w hw hn hs ll Mh h;subst hw;cases hm with
  | @mark D _ _ l h1 h2 h3 hm =>
   have Pn:mk=true:=by cases mk with | true=>rfl | false=>exact absurd (Mh rfl).1 (by simp)
   refine ⟨by simp,.inl ⟨_,_,rfl,run_takeDeferred h1,?_⟩⟩;have aa:=put h1;have hother:∀ b,b≠D->(w.heap.setIfInBounds D (Obj.deferred none))[b]?=w.heap[b]?:=fun b hb=>Vk (V5 hb);have ui:(w.heap.setIfInBounds D (Obj.deferred none))[D]?=some (.deferred none):=by simp [aa]
   refine ih (da:=da) (l:=l) (H:=(w.putObj D (.deferred none)).heap) ?_ H0 (w.putObj D (.deferred none)) rfl hn ?_ ?_ (fun e=>by rw [Pn] at e;cases e) h
   ·have:∀ {dr da:List Deferred}{l:List Nat},D∉l->MixD n w.heap dr da l->MixD n (w.putObj D (.deferred none)).heap dr da l:=by
     intro dr da l hD hm
     induction hm with
     | nil=>exact .nil
     | @mark D' _ _ _ g1 g2 g3 _ ih =>
      have b9:D'≠D:=fun e=>hD (by simp [e]);exact .mark ((hother D' b9).trans g1) g2 g3 (ih fun h=>hD (by simp [h]))
     | call _ ih=>exact .call (ih hD)
    exact this h3 hm
   ·refine ⟨hs.1,hs.2.1,hs.2.2.1,hs.2.2.2.1,by rw [World.putObj_size];exact hs.2.2.2.2.1,fun b ds hb=>?_⟩;have w9:b<w0.heap.size:=(UN.1 hb).1;exact (hother b (by omega)).trans (hs.2.2.2.2.2 b ds hb)
   ·refine ⟨by rw [World.putObj_size];exact ll.1,fun b=>?_⟩;by_cases Po:b=D
    ·subst Po;rcases ll.2 b with h4 | ⟨_,_,h4⟩
     ·exact .inr ⟨h2,by rw [←h4];exact h1,ui⟩
     ·rw [h1] at h4;cases h4
    ·rcases ll.2 b with h4 | ⟨h4,h5,h6⟩
     ·exact .inl ((hother b Po).trans h4)
     ·exact .inr ⟨h4,h5,(hother b Po).trans h6⟩
  | @call _ _ da l hm =>
   unfold jp at h;split at h
   ·rename_i g cap ht;have hc:wF P g (d.args++cap) (fun H''=>jp P fn mk n tmps Q da H'') w.heap:=by
     cases mk with
     | true=>exact h _ ll
     | false=>have:=(Mh rfl).2;subst this;exact h
    obtain ⟨⟨f',ca,nf⟩,hc⟩:=hc;refine ⟨by simp,.inr ⟨fun h=>(by cases h),.func g,cap,g,d.args++cap,ht,?_,fun _ _=>trivial,?_⟩⟩
    ·rw [ht];exact ju hP ca nf _ _
    ·have ON:=hc w .returning rfl;refine CallsDIn.mono (F:=Fence.wide) (n:=k-1) ⟨ON.1,fun c cs hu _=>ON.2 c cs hu (room_wide _)⟩ ?_;rintro e u' w' ⟨rfl,⟨v,rfl⟩,hq,w5⟩;exact ih (hm.keep w5.2.2.2.2) w'.heap w' rfl hn (hs.trans w5) (ku.refl _ _) (fun e=>⟨(Mh e).1,rfl⟩) hq
   ·exact h.elim
theorem yA {P:Program} (hP:GoodPg P){f:FuncId}{fn:Func} (hf:P.funcs[f]?=some fn){c:Code} (hc:fn.body=some c){Ls:wa}{args:Array Value}{Q:Value->ag->Prop}{H:ag}{X:Prop}{mk:Bool}
  (hX:X=ev P Ls c (Kg P fn mk H.size Q) (mL fn args) H) (h:X) (hn:(!mk)=cI c:=by kernel_rfl):ae P f args Q H:=by
 refine ⟨⟨fn,hf,by rw [hc];rfl⟩,fun w hw=>?_⟩;subst hw;rw [hX] at h;have hs:=dZ hP (r:=none) (m:=w.heap.size) c _ (mL fn args) [] [] w (.inl rfl) (UI _) .nil h;refine callsIn_wide (n:=0).1 (callsIn_of_wp_marks hf hc trivial (wpIn_mono hs ?_));rintro e ar w' ⟨hp,a',l',ha,hq,hs,hk,hm,hl⟩;have main:jp P fn mk w.heap.size a'.tmps Q a'.defers w'.heap->LeavesInM Fence.wide 0 P fn ar.tmps (fun e w'=>∃ v,e=.returned v∧Q v w'.heap∧cO w w') ar.defers .returning w':=by
  intro hq
  have:=yf hP (w0:=w) (k:=0) hm w'.heap w' rfl rfl hs (ku.refl _ _) (fun e=>⟨hl (by rw [←hn,e];rfl),rfl⟩) hq;rw [ha];exact this
 cases e with
 | normal=>exact main hq
 | ret=>exact main hq
 | panic c=>exact hp.elim
 | outgrown=>exact hp.elim
 | exit id=>exact hq.elim
 | goto l=>exact hq.elim
theorem yR {P:Program} (hP:GoodPg P){Ls Ls':wa}{l:Nat}{args:Array Value}{r:Loop}{Q:Value->ag->Prop}{H:ag} (hl:H[l]?=some (.loop r)) (hsz:args.size=r.params.size) (hq:(dI r.assign && cd r.assign && dI r.body && cd r.body)=true)
  (h:ev P Ls r.assign (zZ l fun a1 H1=>ev P Ls' r.body (Ac l Q) a1 H1) ⟨(r.params.zip args).foldl (fun tmps (t,a)=>tmps.setIfInBounds t a) r.tmps,[]⟩ H):iT P l args Q H:=by
 intro w hw;subst hw;simp only [U3] at hq;obtain ⟨⟨⟨q1,q2⟩,q3⟩,q4⟩:=hq;refine ⟨r.fn,_,r.assign,r.body,run_yield hl hsz,roundIn_of_wpIn trivial ?_⟩;have h1:=dZ hP (r:=some l) (m:=0) (Ls:=Ls) r.assign _ _ [] [] w (.inr ⟨q1,q2⟩) (U7 _) .nil h;refine wpIn_mono h1 ?_;rintro e ar w1 ⟨hp,a1,l1,ha,JO,hs,hk,hm,Lv⟩;cases e with
 | normal =>
  obtain ⟨r1,I9,ci,hb⟩:=JO;have JR:dg w1.heap (w1.heap.setIfInBounds l (.loop { r1 with state:=.busy })):=dg.setObj I9 (by simp);have us:cO w (w1.putObj l (.loop { r1 with state:=.busy })):=hs.trans (cO.heap (w:=w1) JR);refine ⟨w1.putObj l (.loop { r1 with state:=.busy }),run_beginRound I9 ci,?_⟩;rw [ha];refine wpIn_mono (dZ hP (r:=some l) (m:=0) r.body _ a1 ar.defers l1 (w1.putObj l (.loop { r1 with state:=.busy })) (.inr ⟨q3,q4⟩) (U7 _) (hm.keep JR) hb) ?_;rintro e ar' w3 ⟨J3,a2,l2,ha2,Ji,OO,JB,Mi,Mf⟩;have fin:∀ (r2:Loop) (o:Loop),w3.heap[l]?=some (.loop r2)->cO w (w3.putObj l (.loop o)):=fun r2 o h2=>(us.trans OO).trans (cO.heap (w:=w3) (dg.setObj h2 (by simp)));cases e with
  | normal =>
   obtain ⟨r2,h2,hQ⟩:=Ji;exact ⟨_,_,run_endRound none h2,_,rfl,hQ,fin r2 _ h2⟩
  | ret =>
   obtain ⟨r2,h2,hQ⟩:=Ji;exact ⟨_,_,run_endRound (some .ret) h2,_,rfl,hQ,fin r2 _ h2⟩
  | exit id =>
   obtain ⟨r2,h2,hQ⟩:=Ji;exact ⟨_,_,run_endRound (some (.exit id)) h2,_,rfl,hQ,fin r2 _ h2⟩
  | goto t=>exact Ji.elim
  | panic c=>exact J3.elim
  | outgrown=>exact J3.elim
 | ret=>exact JO.elim
 | exit id=>exact JO.elim
 | goto t=>exact JO.elim
 | panic c=>exact hp.elim
 | outgrown=>exact hp.elim
theorem wq {P:Program} (hP:GoodPg P){Ls Ls':wa}{l:Nat}{args:Array Value}{r:Loop}{Q:Value->ag->Prop}{H:ag}{X:Prop} (hl:H[l]?=some (.loop r)) (hsz:args.size=r.params.size) (hq:(dI r.assign && cd r.assign && dI r.body && cd r.body)=true)
  (hX:X=ev P Ls r.assign (zZ l fun a1 H1=>ev P Ls' r.body (Ac l Q) a1 H1) ⟨(r.params.zip args).foldl (fun tmps (t,a)=>tmps.setIfInBounds t a) r.tmps,[]⟩ H) (h:X):iT P l args Q H :=
 yR hP hl hsz hq (by rw [hX] at h;exact h)
end Kw
namespace Go.Proofs.YtgjfejoohojokaaGreatDoor
open Kw
abbrev QT:=Value->ag->Prop
noncomputable abbrev PP:=Tryz.prog
theorem good:GoodPg PP:=⟨by kernel_rfl,by kernel_rfl⟩
abbrev aK (b : Nat) : Addr := ⟨b, 0, none⟩
abbrev aY (b o : Nat) : Addr := (⟨b, 0, none⟩ : Addr).add o
abbrev aF (n m : Int) : Value := .tuple #[.int .i64 n, .int .i64 m]
abbrev zo (f : FuncId) (x : Array Value) (Q : Value -> ag -> Prop) (H : ag) : Prop := ae PP f x Q H
abbrev mH {α : Type} (x : Sem α) (Q : α -> ag -> Prop) (H : ag) : Prop := cu PP x Q H
abbrev bk (b : Bool) : Value := .bool b
abbrev bJ (f : FuncId) (x : Array Value) (H : ag) (K : Bool -> ag -> Prop) : Prop := ae PP f x (fun v H => ∃ x0 : Bool, v = .bool x0 ∧ K x0 H) H
abbrev g9 (f : FuncId) (x : Array Value) (H : ag) (K : Nat -> Array Value -> Array Value -> ag -> Prop) : Prop := ae PP f x (fun v H => ∃ x0 : Nat, ∃ x1 : Array Value, ∃ x2 : Array Value, v = .func (.func x0) x1 x2 ∧ K x0 x1 x2 H) H
abbrev aT (f : FuncId) (x : Array Value) (H : ag) (K : Int -> ag -> Prop) : Prop := ae PP f x (fun v H => ∃ x0 : Int, v = .int .i64 x0 ∧ K x0 H) H
abbrev dU (f : FuncId) (x : Array Value) (H : ag) (K : Option Addr -> Nat -> Nat -> ag -> Prop) : Prop := ae PP f x (fun v H => ∃ x0 : Option Addr, ∃ x1 : Nat, ∃ x2 : Nat, v = .slice x0 x1 x2 ∧ K x0 x1 x2 H) H
abbrev xT (f : FuncId) (x : Array Value) (H : ag) (K : Option Nat -> ag -> Prop) : Prop := ae PP f x (fun v H => ∃ x0 : Option Nat, v = .map x0 ∧ K x0 H) H
abbrev dd (f : FuncId) (x : Array Value) (H : ag) (K : Option Addr -> ag -> Prop) : Prop := ae PP f x (fun v H => ∃ x0 : Option Addr, v = .pointer x0 ∧ K x0 H) H
abbrev gI (f : FuncId) (x : Array Value) (H : ag) (K : ByteArray -> ag -> Prop) : Prop := ae PP f x (fun v H => ∃ x0 : ByteArray, v = .string x0 ∧ K x0 H) H
abbrev ao (b : Bool) (x y : Prop) : Prop := cond b x y
abbrev oz (f : FuncId) (x : Array Value) (H : ag) (K : Bool -> Int -> ag -> Prop) : Prop := ae PP f x (fun v H => ∃ x0 : Bool, ∃ x1 : Int, v = .tuple #[.bool x0, .int .i64 x1] ∧ K x0 x1 H) H
abbrev lD (f : FuncId) (x : Array Value) (H : ag) (K : Int -> Bool -> ag -> Prop) : Prop := ae PP f x (fun v H => ∃ x0 : Int, ∃ x1 : Bool, v = .tuple #[.int .i64 x0, .bool x1] ∧ K x0 x1 H) H
abbrev iU (f : FuncId) (x : Array Value) (H : ag) (K : Int -> Int -> Int -> Int -> ag -> Prop) : Prop := ae PP f x (fun v H => ∃ x0 : Int, ∃ x1 : Int, ∃ x2 : Int, ∃ x3 : Int, v = .tuple #[.int .i64 x0, .int .i64 x1, .int .i64 x2, .int .i64 x3] ∧ K x0 x1 x2 x3 H) H
abbrev cB (f : FuncId) (x : Array Value) (H : ag) (K : Int -> Int -> Int -> ag -> Prop) : Prop := ae PP f x (fun v H => ∃ x0 : Int, ∃ x1 : Int, ∃ x2 : Int, v = .tuple #[.int .i64 x0, .int .i64 x1, .int .i64 x2] ∧ K x0 x1 x2 H) H
abbrev ak (f : FuncId) (x : Array Value) (H : ag) (K : Int -> Int -> ag -> Prop) : Prop := ae PP f x (fun v H => ∃ x0 : Int, ∃ x1 : Int, v = .tuple #[.int .i64 x0, .int .i64 x1] ∧ K x0 x1 H) H
abbrev oC (f : FuncId) (x : Array Value) (H : ag) (K : Option Addr -> Nat -> Nat -> Int -> ag -> Prop) : Prop := ae PP f x (fun v H => ∃ x0 : Option Addr, ∃ x1 : Nat, ∃ x2 : Nat, ∃ x3 : Int, v = .tuple #[.slice x0 x1 x2, .int .i64 x3] ∧ K x0 x1 x2 x3 H) H
abbrev jl (f : FuncId) (x : Array Value) (H : ag) (K : Option Addr -> Int -> ag -> Prop) : Prop := ae PP f x (fun v H => ∃ x0 : Option Addr, ∃ x1 : Int, v = .tuple #[.pointer x0, .int .i64 x1] ∧ K x0 x1 H) H
abbrev jm (f : FuncId) (x : Array Value) (H : ag) (K : ByteArray -> Int -> ag -> Prop) : Prop := ae PP f x (fun v H => ∃ x0 : ByteArray, ∃ x1 : Int, v = .tuple #[.string x0, .int .i64 x1] ∧ K x0 x1 H) H
abbrev iV (f : FuncId) (x : Array Value) (H : ag) (K : ByteArray -> ByteArray -> Bool -> ag -> Prop) : Prop := ae PP f x (fun v H => ∃ x0 : ByteArray, ∃ x1 : ByteArray, ∃ x2 : Bool, v = .tuple #[.string x0, .string x1, .bool x2] ∧ K x0 x1 x2 H) H
abbrev ik (f : FuncId) (x : Array Value) (H : ag) (K : Option Addr -> Int -> ag -> Prop) : Prop := ae PP f x (fun v H => ∃ x0 : Option Addr, ∃ x1 : Int, v = .tuple #[.agg #[.pointer x0], .int .i64 x1] ∧ K x0 x1 H) H
abbrev gg (f : FuncId) (x : Array Value) (H : ag) (K : ag -> Prop) : Prop := ae PP f x (fun v H => v = .tuple #[] ∧ K  H) H
abbrev cS (a b : Int) : Bool := decide (a > b)
abbrev bv (a b : Int) : Bool := decide (a < b)
abbrev Hj (H : ag) (a : Addr) (K : Bool -> Prop) : Prop := ∃ x0 : Bool, aq H a = some (.bool x0) ∧ K x0
abbrev lE (H : ag) (a : Addr) (K : Nat -> Array Value -> Array Value -> Prop) : Prop := ∃ x0 : Nat, ∃ x1 : Array Value, ∃ x2 : Array Value, aq H a = some (.func (.func x0) x1 x2) ∧ K x0 x1 x2
abbrev aB (H : ag) (a : Addr) (K : Int -> Prop) : Prop := ∃ x0 : Int, aq H a = some (.int .i64 x0) ∧ K x0
abbrev aH (H : ag) (a : Addr) (K : Option Addr -> Nat -> Nat -> Prop) : Prop := ∃ x0 : Option Addr, ∃ x1 : Nat, ∃ x2 : Nat, aq H a = some (.slice x0 x1 x2) ∧ K x0 x1 x2
abbrev mI (H : ag) (a : Addr) (K : Option Nat -> Prop) : Prop := ∃ x0 : Option Nat, aq H a = some (.map x0) ∧ K x0
abbrev aE (H : ag) (a : Addr) (K : Option Addr -> Prop) : Prop := ∃ x0 : Option Addr, aq H a = some (.pointer x0) ∧ K x0
abbrev jT (H : ag) (a : Addr) (K : ByteArray -> Prop) : Prop := ∃ x0 : ByteArray, aq H a = some (.string x0) ∧ K x0
abbrev bq (q : Addr) (n : Int) (k : Nat) : Addr := q.add (Int.toNat n * k)
abbrev aL (x : Array Value) : Value := .agg x
abbrev ac (n : Int) : Value := .int .i64 n
abbrev bu (i : Int) (l : Nat) (a : Option Addr) (K : Addr -> Prop) : Prop := ((0 : Int) <= i ∧ i < (l : Int)) ∧ ∃ q, a = some q ∧ K q
abbrev zp (A : (List Value -> ag -> Prop) -> Prop) (B : ag -> Prop) : Prop := ∃ J : List Value -> ag -> Prop, A J ∧ ∀ w H, J w H -> ∀ _g : Nat -> Value, w = [] ∧ B H
abbrev Bj (A : (List Value -> ag -> Prop) -> Prop) (B : Bool -> ag -> Prop) : Prop := ∃ J : List Value -> ag -> Prop, A J ∧ ∀ w H, J w H -> ∀ _g : Nat -> Value, ∃ x0 : Bool, w = [.bool x0] ∧ B x0 H
abbrev Hk (A : (List Value -> ag -> Prop) -> Prop) (B : Int -> ag -> Prop) : Prop := ∃ J : List Value -> ag -> Prop, A J ∧ ∀ w H, J w H -> ∀ _g : Nat -> Value, ∃ x0 : Int, w = [.int .i64 x0] ∧ B x0 H
abbrev EQ (A : (List Value -> ag -> Prop) -> Prop) (B : Int -> Int -> ag -> Prop) : Prop := ∃ J : List Value -> ag -> Prop, A J ∧ ∀ w H, J w H -> ∀ _g : Nat -> Value, ∃ x0 : Int, ∃ x1 : Int, w = [.int .i64 x0, .int .i64 x1] ∧ B x0 x1 H
abbrev Hl (A : (List Value -> ag -> Prop) -> Prop) (B : Option Addr -> ag -> Prop) : Prop := ∃ J : List Value -> ag -> Prop, A J ∧ ∀ w H, J w H -> ∀ _g : Nat -> Value, ∃ x0 : Option Addr, w = [.pointer x0] ∧ B x0 H
abbrev Kh (x : List Value) (H : ag) (B : (List Value -> ag -> Prop) -> (List Value -> ag -> Nat) -> List Value -> ag -> Prop) : Prop := ∃ (I : List Value -> ag -> Prop) (μ : List Value -> ag -> Nat), I x H ∧ ∀ w H, I w H -> ∀ _g : Nat -> Value, w = [] ∧ B I μ w H 
abbrev cX (x : List Value) (H : ag) (B : (List Value -> ag -> Prop) -> (List Value -> ag -> Nat) -> List Value -> ag -> Int -> Prop) : Prop := ∃ (I : List Value -> ag -> Prop) (μ : List Value -> ag -> Nat), I x H ∧ ∀ w H, I w H -> ∀ _g : Nat -> Value, ∃ x0 : Int, w = [.int .i64 x0] ∧ B I μ w H x0
abbrev ER (x : List Value) (H : ag) (B : (List Value -> ag -> Prop) -> (List Value -> ag -> Nat) -> List Value -> ag -> Int -> Int -> Prop) : Prop := ∃ (I : List Value -> ag -> Prop) (μ : List Value -> ag -> Nat), I x H ∧ ∀ w H, I w H -> ∀ _g : Nat -> Value, ∃ x0 : Int, ∃ x1 : Int, w = [.int .i64 x0, .int .i64 x1] ∧ B I μ w H x0 x1
abbrev Hm (x : List Value) (H : ag) (B : (List Value -> ag -> Prop) -> (List Value -> ag -> Nat) -> List Value -> ag -> Option Addr -> Nat -> Nat -> Prop) : Prop := ∃ (I : List Value -> ag -> Prop) (μ : List Value -> ag -> Nat), I x H ∧ ∀ w H, I w H -> ∀ _g : Nat -> Value, ∃ x0 : Option Addr, ∃ x1 : Nat, ∃ x2 : Nat, w = [.slice x0 x1 x2] ∧ B I μ w H x0 x1 x2
abbrev jO (x : List Value) (H : ag) (B : (List Value -> ag -> Prop) -> (List Value -> ag -> Nat) -> List Value -> ag -> Option Addr -> Nat -> Nat -> Int -> Prop) : Prop := ∃ (I : List Value -> ag -> Prop) (μ : List Value -> ag -> Nat), I x H ∧ ∀ w H, I w H -> ∀ _g : Nat -> Value, ∃ x0 : Option Addr, ∃ x1 : Nat, ∃ x2 : Nat, ∃ x3 : Int, w = [.slice x0 x1 x2, .int .i64 x3] ∧ B I μ w H x0 x1 x2 x3
abbrev zq (x : List Value) (H : ag) (B : (List Value -> ag -> Prop) -> (List Value -> ag -> Nat) -> List Value -> ag -> Option Addr -> Nat -> Nat -> Option Addr -> Nat -> Nat -> Int -> Prop) : Prop := ∃ (I : List Value -> ag -> Prop) (μ : List Value -> ag -> Nat), I x H ∧ ∀ w H, I w H -> ∀ _g : Nat -> Value, ∃ x0 : Option Addr, ∃ x1 : Nat, ∃ x2 : Nat, ∃ x3 : Option Addr, ∃ x4 : Nat, ∃ x5 : Nat, ∃ x6 : Int, w = [.slice x0 x1 x2, .slice x3 x4 x5, .int .i64 x6] ∧ B I μ w H x0 x1 x2 x3 x4 x5 x6
abbrev au (a : Option Addr) (l c : Nat) : Value := .slice a l c
abbrev ck (I : List Value -> ag -> Prop) (μ : List Value -> ag -> Nat) (x : List Value) (H : ag) (w : List Value) (G : ag) : Prop := I x H ∧ μ x H < μ w G
abbrev ga (r : Option Nat) : Value := .map r
abbrev aN (p : Option Addr) (K : Addr -> Prop) : Prop := ∃ q, p = some q ∧ K q
abbrev fi {α : Type} (p : Option α) : Bool := Option.isNone p
abbrev Kj (b : Nat) : Value := .pointer (some ⟨b, 0, none⟩)
abbrev am (p : Option Addr) : Value := .pointer p
abbrev aJ (H : ag) (x : Array Value) (t : TypeId) : ag := H.push (.cells x t)
abbrev xU (x : Sem Value) (H : ag) (K : Int -> ag -> Prop) : Prop := cu PP x (fun v H => ∃ x0 : Int, v = .int .i64 x0 ∧ K x0 H) H
abbrev cC (x : Sem Value) (H : ag) (K : Option Addr -> Nat -> Nat -> ag -> Prop) : Prop := cu PP x (fun v H => ∃ x0 : Option Addr, ∃ x1 : Nat, ∃ x2 : Nat, v = .slice x0 x1 x2 ∧ K x0 x1 x2 H) H
abbrev Hn (x : Sem Value) (H : ag) (K : Option Addr -> ag -> Prop) : Prop := cu PP x (fun v H => ∃ x0 : Option Addr, v = .pointer x0 ∧ K x0 H) H
abbrev Ho (x : Sem Value) (H : ag) (K : ByteArray -> ag -> Prop) : Prop := cu PP x (fun v H => ∃ x0 : ByteArray, v = .string x0 ∧ K x0 H) H
abbrev cA {α : Type} (x : Sem α) (H : ag) (K : ag -> Prop) : Prop := cu PP x (fun _ H => K H) H
abbrev aZ (s : ByteArray) : Value := .string s
abbrev ax {α : Type} (a : α) (f : α -> Prop) : Prop := f a
abbrev bP (H : ag) (a : Addr) (v : Value) (K : ag -> Prop) : Prop := Wr H a ∧ K (bc H a v)
abbrev wN (x : Sem Value) (H : ag) (K : Int -> Bool -> ag -> Prop) : Prop := cu PP x (fun v H => ∃ x0 : Int, ∃ x1 : Bool, v = .tuple #[.int .i64 x0, .bool x1] ∧ K x0 x1 H) H
abbrev zr (i : Int) (s : ByteArray) (K : UInt8 -> Prop) : Prop := ∃ u : UInt8, ((0 : Int) <= i ∧ s[Int.toNat i]? = some u) ∧ K u
abbrev bU (x : Array Value) : Value := .tuple x
abbrev bd (n : Int) : Int := IntKind.wrap .i64 n
theorem okL {f : FuncId} {fn : Func} (hf : PP.funcs[f]? = some fn) {c : Code} (hc : fn.body = some c) (Ls : wa) {args : Array Value} {Q : Value -> ag -> Prop} {H : ag} {X : Prop} (h : X) (hX : X = ev PP Ls c (I0 PP fn Q) (mL fn args) H := by kernel_rfl) (hn : (cd c && cI c) = true := by kernel_rfl) : ae PP f args Q H := tK good hf hc hX h hn
theorem okF {f : FuncId} {fn : Func} (hf : PP.funcs[f]? = some fn) {c : Code} (hc : fn.body = some c) {args : Array Value} {Q : Value -> ag -> Prop} {H : ag} {X : Prop} (h : X) (hX : X = ev PP (fun _ => none) c (I0 PP fn Q) (mL fn args) H := by kernel_rfl) (hn : (cd c && cI c) = true := by kernel_rfl) : ae PP f args Q H := tK good hf hc hX h hn
abbrev aS:Nat:=0
abbrev gq:Nat:=3
section
variable {Q:QT}{H:ag}
variable {a b c d A B D P:Option Addr}{i j k m n x y z I J K M N:Int}{l o r s u v L O R S U V:Nat}{t w T W:ByteArray}{e E g:Bool}{q:Option Nat}{p X Y Z:Value}{F G:Addr}
theorem GK (h:bJ 109 #[am a] H fun b c=>ao b (Q (ac 2) c) (bJ 110 #[ac i,ac 1073741824] c fun b c=>ao (!b) (Q (ac 1) c) (aN a fun a=>bP c (a.add 6) (ac i) fun a=>Q (ac 0) a))):ae PP 45 #[.pointer a,ac i] Q H :=
 okF Tryz.func45 rfl h
theorem Fw (h:ak 116 #[am a,ac i] H fun b c d=>ao (c != 0) (Q (aF 0 c) d) (aN a fun a=>aH d a fun a c _=>bu b c a fun a=>aB d (bq a b 1) fun a=>Q (aF a 0) d)):ae PP 54 #[.pointer a,ac i] Q H :=
 okF Tryz.func54 rfl h
theorem Gc (h:ak 116 #[am a,ac i] H fun b c d=>ao (c != 0) (Q (bU #[ac 0,ac 0,ac c]) d) (ak 117 #[am a,ac b] d fun a b c=>Q (bU #[ac a,ac b,ac 0]) c)):ae PP 55 #[.pointer a,ac i] Q H :=
 okF Tryz.func55 rfl h
theorem GS (h:iU 118 #[am a,ac i,ac j] H fun b c d e f=>ao (e != 0) (Q (aF 0 e) f) (ao (d == 1) (aN a fun a=>aH f a fun a d _=>bu b d a fun a=>aB f (bq a b 1) fun a=>ao (bv c 0) False (Q (aF (ox .i64 (jR .i64 a c) 255) 0) f)) (aN a fun a=>aH f a fun a c _=>bu b c a fun a=>aB f (bq a b 1) fun a=>Q (aF a 0) f))):ae PP 57 #[.pointer a,ac i,ac j] Q H :=
 okF Tryz.func57 rfl h
theorem GX (h:ao (fi a) (Q (ac 0) H) (aN a fun a=>aB H (a.add 6) fun a=>Q (ac a) H)):ae PP 60 #[.pointer a] Q H :=
 okF Tryz.func60 rfl h
theorem FH (h:ax (ac j) fun b=>ax (ac k) fun c=>zp (fun d=>bJ 109 #[am a] H fun e f=>ao e (Q (aF 0 2) f) (bJ 140 #[ac i] f fun e f=>ax (aF 0 1) fun g=>ao (!e) (Q g f) (ax (aF 0 23) fun e=>ao (k != 0) (ao (k != 1) (Q g f) (ao (bv j 0) (Q g f) (ao (cS j 8192) (Q (aF 0 22) f) (aN a fun g=>aB f (g.add 3) fun g=>aN a fun i=>aH f (i.add 1) fun _ i _=>ao (decide (g≥bd ((i:Int)-1))) (Q e f) (aN a fun g=>aH f g fun i j k=>aN a fun l=>aB f (l.add 4) fun m=>aT 141 #[b,c] f fun b c=>((aq c (l.add 4)=some (ac m)∧True)∧(aq c g=some (au i j k)∧True)∧True)∧ao (cS b (bd ((j:Int)-m))) (Q e c) (aN a fun b=>aB c (b.add 6) fun b=>ao (b == 1) (aN a fun a=>bP c (a.add 6) (ac 0) fun a=>Q (aF 0 24) a) (aN a fun b=>aB c (b.add 6) fun b=>ao (cS b 0) (aN a fun b=>aB c (b.add 6) fun b=>aN a fun a=>bP c (a.add 6) (ac (bd (b-1))) fun a=>d [] a) (d [] c)))))))) (ao (bv j 0) (Q g f) (ao (cS j 8192) (Q (aF 0 22) f) (aN a fun g=>aB f (g.add 3) fun g=>aN a fun i=>aH f (i.add 1) fun _ i _=>ao (decide (g≥bd ((i:Int)-1))) (Q e f) (aN a fun g=>aH f g fun i j k=>aN a fun l=>aB f (l.add 4) fun m=>aT 141 #[b,c] f fun b c=>((aq c (l.add 4)=some (ac m)∧True)∧(aq c g=some (au i j k)∧True)∧True)∧ao (cS b (bd ((j:Int)-m))) (Q e c) (aN a fun b=>aB c (b.add 6) fun b=>ao (b == 1) (aN a fun a=>bP c (a.add 6) (ac 0) fun a=>Q (aF 0 24) a) (aN a fun b=>aB c (b.add 6) fun b=>ao (cS b 0) (aN a fun b=>aB c (b.add 6) fun b=>aN a fun a=>bP c (a.add 6) (ac (bd (b-1))) fun a=>d [] a) (d [] c)))))))))) fun d=>aN a fun e=>aB d (e.add 5) fun e=>cX [ac e] d fun d e f g j=>aN a fun l=>aH g (l.add 1) fun l m _=>bu j m l fun l=>aB g (bq l j 1) fun l=>ax (ac (bd (j+1))) fun m=>ao (decide (l≥0)) (ck d e [m] g f g) (aN a fun d=>bP g (d.add 5) m fun d=>aN a fun e=>aH d e fun f g l=>aN a fun m=>aB d (m.add 4) fun n=>aN a fun o=>aB d (o.add 4) fun p=>aT 141 #[b,c] d fun d q=>((aq q (o.add 4)=some (ac p)∧True)∧(aq q (m.add 4)=some (ac n)∧True)∧(aq q e=some (au f g l)∧True)∧True)∧ax (bd (n+2)) fun e=>ax (bd (p+d)) fun d=>(((0:Int)<=d∧d<=(l:Int))∧(0:Int)<=e∧e<=d)∧ax (Int.toNat e) fun g=>ax (Int.toNat d) fun d=>ax (jS f l e 1) fun e=>mH (Builtin.clear_ #[30] 0 #[au e (d-g) (l-g)]) (fun _ f=>ao (k == 0) (cX [ac 0] f fun f k l m n=>ao (bv n ((d-g:Nat):Int)) (bu n (d-g) e fun a=>bP m (bq a n 1) (ac 4) fun a=>ck f k [ac (bd (n+1))] a l m) (aT 142 #[am a,ac j,ac i,b,c] m fun _ a=>Q (aF j 0) a)) (aT 142 #[am a,ac j,ac i,b,c] f fun _ a=>Q (aF j 0) a)) q)):ae PP 72 #[.pointer a,ac i,ac j,ac k] Q H :=
 okL Tryz.func72 rfl (fun | 1014=>some [] | 15=>some [(10,3)] | 22=>some [(127,3)] | _=>none) h
theorem Gq (h:ax (am a) fun c=>bJ 109 #[c] H fun d e=>ax (ac 0) fun f=>ao d (Q (bU #[f,f,ac 2]) e) (aN a fun d=>aH e (d.add 1) fun _ d _=>cC (Instr.makeSlice 25 (ac (d:Int)) (ac (d:Int))) e fun d e _ g=>cX [f] g fun g i j k m=>ao (bv m (l:Int)) (bu m l b fun a=>aB k (bq a m 1) fun a=>ak 116 #[c,ac a] k fun _ b c=>ao (b != 0) (Q (bU #[f,f,ac b]) c) (bu a e d fun b=>bP c (bq b a 1) (ac 1) fun a=>ck g i [ac (bd (m+1))] a j k)) (aN a fun b=>aB k (b.add 3) fun b=>aN a fun g=>aB k (g.add 4) fun g=>dU 168 #[c] k fun i j _ k=>ER [f,f] k fun k l m n o p=>ax (Int.toNat o) fun q=>ax (0:Int) fun r=>ao (bv p (j:Int)) (bu p j i fun b=>aB n (bq b p 1) fun b=>aN a fun f=>aH n (f.add 1) fun f g _=>bu b g f fun f=>aB n (bq f b 1) fun f=>bu b e d fun d=>aB n (bq d b 1) fun d=>ax (ac (bd (p+1))) fun e=>ao (d == 0) (gg 169 #[c,ac b] n fun a=>ck k l [ac o,e] a m n) (aT 170 #[c,ac f] n fun c d=>aN a fun g=>aH d g fun g i j=>(r<=o∧o<=(i:Int))∧aN a fun p=>aH d p fun p _ s=>ax (bd (f+c)) fun t=>((r<=t∧t<=(s:Int))∧r<=f∧f<=t)∧xU (Builtin.copy_ #[30,30] 3 #[au (jS g j o 1) (i-q) (j-q),au (jS p s f 1) (Int.toNat t-Int.toNat f) (s-Int.toNat f)]) d fun _ d=>True∧aN a fun a=>aH d (a.add 1) fun a f _=>bu b f a fun a=>bP d (bq a b 1) (ac o) fun a=>ck k l [ac (bd (o+c)),e] a m n)) (aN a fun c=>aH n c fun c _ d=>aN a fun e=>aB n (e.add 4) fun e=>((r<=e∧e<=(d:Int))∧r<=o∧o<=e)∧mH (Builtin.clear_ #[30] 0 #[au (jS c d o 1) (Int.toNat e-q) (d-q)]) (fun _ c=>True∧aN a fun d=>bP c (d.add 4) (ac o) fun c=>aN a fun d=>aB c (d.add 8) fun d=>aN a fun e=>bP c (e.add 8) (ac (bd (d+1))) fun c=>aN a fun a=>aB c (a.add 3) fun a=>Q (bU #[ac (bd (b-a)),ac (bd (g-o)),f]) c) n)))):ae PP 83 #[.pointer a,.slice b l o] Q H :=
 okL Tryz.func83 rfl (fun | 5=>some [(29,3)] | 14=>some [(14,3),(57,3)] | _=>none) h
theorem Bl (h:ao (fi a) (Q (bk true) H) (aN a fun a=>aH H (a.add 1) fun a _ _=>Q (bk (fi a)) H)):ae PP 109 #[.pointer a] Q H :=
 okF Tryz.func109 rfl h
theorem Bv (h:ao (decide ((0:Int)<=i)) (Q (bk (decide (i<=j))) H) (Q (bk false) H)):ae PP 110 #[ac i,ac j] Q H :=
 okF Tryz.func110 rfl h
theorem CG (h:bJ 109 #[am a] H fun b c=>ao b (Q (aF 0 2) c) (ao (bv i 1) (Q (aF 0 20) c) (aN a fun b=>aH c (b.add 1) fun _ b _=>ao (decide (i≥(b:Int))) (Q (aF 0 20) c) (aN a fun b=>aH c (b.add 1) fun b d _=>bu i d b fun b=>aB c (bq b i 1) fun b=>ao (bv b 0) (Q (aF 0 20) c) (aN a fun a=>aH c (a.add 1) fun a b _=>bu i b a fun a=>aB c (bq a i 1) fun a=>Q (aF a 0) c))))):ae PP 116 #[.pointer a,ac i] Q H :=
 okF Tryz.func116 rfl h
theorem xI (h:aN a fun a=>aH H a fun a b _=>bu (bd (i+1)) b a fun a=>aB H (bq a (bd (i+1)) 1) fun a=>Q (aF (jR .i64 a 1) (ox .i64 a 1)) H):ae PP 117 #[.pointer a,ac i] Q H :=
 okF Tryz.func117 rfl h
theorem Ee (h:ak 116 #[am a,ac i] H fun b c d=>ax (ac 0) fun e=>ao (c != 0) (Q (bU #[e,e,e,ac c]) d) (ak 117 #[am a,ac b] d fun a c d=>ax (bU #[e,e,e,ac 21]) fun f=>ao (bv j 0) (Q f d) (ao (decide (j≥a)) (Q f d) (ao (c == 1) (Q (bU #[ac (bd (bd (b+2)+bd (Int.tdiv j 4))),ac (bd (Int.tmod j 4*8)),ac c,e]) d) (Q (bU #[ac (bd (bd (b+2)+j)),e,ac c,e]) d))))):ae PP 118 #[.pointer a,ac i,ac j] Q H :=
 okF Tryz.func118 rfl h
theorem C8 (h:bJ 110 #[ac i,ac 1048576] H fun a b=>ax (ac 1) fun c=>ax (bU #[am none,c]) fun d=>ao (!a) (Q d b) (bJ 110 #[ac j,ac 65536] b fun a b=>ao (!a) (Q d b) (ax (ac 0) fun a=>Hl (fun d=>ax (Instr.makeSlice 25 (ac (bd (j+1))) (ac (bd (j+1)))) fun e=>ax (Instr.makeSlice 30 (ac i) (ac i)) fun f=>cC f b (fun b f g i=>True∧cC e i (fun i j k l=>True∧cC e l fun e l m n=>True∧True∧d [am (some (aK n.size))] (aJ n #[au b f g,au i j k,au e l m,a,a,c,a,a,a] 161))∧cC e i fun i j k l=>True∧cC e l fun e l m n=>True∧True∧d [am (some (aK n.size))] (aJ n #[au b f g,au e l m,au i j k,a,a,c,a,a,a] 161))∧cC e b (fun b g i j=>True∧cC f j (fun f j k l=>True∧cC e l fun e l m n=>True∧True∧d [am (some (aK n.size))] (aJ n #[au f j k,au b g i,au e l m,a,a,c,a,a,a] 161))∧cC e j fun e j k l=>True∧cC f l fun f l m n=>True∧True∧d [am (some (aK n.size))] (aJ n #[au f l m,au b g i,au e j k,a,a,c,a,a,a] 161))∧cC e b fun b g i j=>True∧cC f j (fun f j k l=>True∧cC e l fun e l m n=>True∧True∧d [am (some (aK n.size))] (aJ n #[au f j k,au e l m,au b g i,a,a,c,a,a,a] 161))∧cC e j fun e j k l=>True∧cC f l fun f l m n=>True∧True∧d [am (some (aK n.size))] (aJ n #[au f l m,au e j k,au b g i,a,a,c,a,a,a] 161)) fun b c=>aN b fun d=>aH c (d.add 1) fun _ d _=>cX [a] c fun c e f g i=>ao (bv i (d:Int)) (aN b fun a=>aH g (a.add 1) fun a b _=>bu i b a fun a=>bP g (bq a i 1) (ac (-1)) fun a=>ck c e [ac (bd (i+1))] a f g) (Q (bU #[am b,a]) g)))):ae PP 139 #[ac i,ac j] Q H :=
 okL Tryz.func139 rfl (fun | 1004=>some [(6,66)] | 5=>some [(31,3)] | _=>none) h
theorem Eu (h:aT 13 #[ac i] H fun a b=>Q (bk (a != 0)) b):ae PP 140 #[ac i] Q H :=
 okF Tryz.func140 rfl h
theorem EB (h:ao (j == 1) (Q (ac (bd (2+bd (Int.tdiv (bd (bd (i+4)-1)) 4)))) H) (Q (ac (bd (2+i))) H)):ae PP 141 #[ac i,ac j] Q H :=
 okF Tryz.func141 rfl h
theorem Cg (h:aN a fun b=>aB H (b.add 4) fun b=>aN a fun c=>aH H c fun c d _=>aN a fun e=>aH H e fun e f _=>bu b d c fun c=>bP H (bq c b 1) (ac j) fun c=>True∧bu (bd (b+1)) f e fun d=>bP c (bq d (bd (b+1)) 1) (ac (xG .i64 (gQ .i64 k 1) m)) fun c=>True∧aN a fun d=>aH c (d.add 1) fun d e _=>aN a fun f=>aH c (f.add 2) fun f g _=>aN a fun j=>aB c (j.add 7) fun j=>bu i e d fun d=>bP c (bq d i 1) (ac b) fun c=>True∧bu i g f fun d=>bP c (bq d i 1) (ac j) fun c=>True∧aN a fun d=>aB c (d.add 4) fun e=>aT 141 #[ac k,ac m] c fun c f=>((aq f (d.add 4)=some (ac e)∧True)∧True)∧aN a fun d=>bP f (d.add 4) (ac (bd (e+c))) fun c=>True∧aN a fun d=>aB c (d.add 7) fun d=>aN a fun e=>bP c (e.add 7) (ac (bd (d+1))) fun c=>aN a fun d=>aB c (d.add 3) fun d=>aN a fun a=>bP c (a.add 3) (ac (bd (d+1))) fun a=>Q (ac b) a):ae PP 142 #[.pointer a,ac i,ac j,ac k,ac m] Q H :=
 okF Tryz.func142 rfl h
theorem xw (h:iU 118 #[am a,ac i,ac j] H fun b c d e f=>ao (e != 0) (Q (ac e) f) (bJ 269 #[ac k,ac d] f fun e f=>ao (!e) (Q (ac 10) f) (ao (d == 1) (aN a fun d=>aH f d fun d e _=>bu b e d fun d=>aB f (bq d b 1) fun d=>ao (bv c 0) False (ao (bv c 0) False (aN a fun a=>aH f a fun a e _=>bu b e a fun a=>bP f (bq a b 1) (ac (xG .i64 (lQ .i64 d (gQ .i64 255 c)) (gQ .i64 k c))) fun a=>Q (ac 0) a))) (aN a fun a=>aH f a fun a c _=>bu b c a fun a=>bP f (bq a b 1) (ac k) fun a=>Q (ac 0) a)))):ae PP 148 #[.pointer a,ac i,ac j,ac k] Q H :=
 okF Tryz.func148 rfl h
theorem EO (h:ax (aJ H #[am a] 66) fun a=>aE a (aK H.size) fun b=>dU 283 #[am b] a fun a b c d=>gg 284 #[au a b c,.func (.func 285) #[] #[am (some (aK H.size))]] d fun d=>Q (au a b c) d):ae PP 168 #[.pointer a] Q H :=
 okF Tryz.func168 rfl h
theorem Bn (h:aN a fun b=>aH H b fun b c _=>aN a fun d=>aH H (d.add 1) fun d e _=>bu i e d fun d=>aB H (bq d i 1) fun d=>bu d c b fun b=>bP H (bq b d 1) (ac 0) fun b=>True∧aN a fun c=>aH b (c.add 1) fun c d _=>bu i d c fun c=>bP b (bq c i 1) (ac (-1)) fun b=>aN a fun c=>aB b (c.add 5) fun c=>aN a fun d=>bP b (d.add 5) (ac (if i<c then i else c)) fun b=>aN a fun c=>aB b (c.add 3) fun c=>aN a fun a=>bP b (a.add 3) (ac (bd (c-1))) fun a=>Q (bU #[]) a):ae PP 169 #[.pointer a,ac i] Q H :=
 okF Tryz.func169 rfl h
theorem Cy (h:ak 117 #[am a,ac i] H fun a b c=>aT 141 #[ac a,ac b] c fun a b=>Q (ac a) b):ae PP 170 #[.pointer a,ac i] Q H :=
 okF Tryz.func170 rfl h
theorem DX (h:ao (j == 1) (ao (decide ((0:Int)<=i)) (Q (bk (decide (i<=255))) H) (Q (bk false) H)) (bJ 140 #[ac i] H fun a b=>Q (bk a) b)):ae PP 269 #[ac i,ac j] Q H :=
 okF Tryz.func269 rfl h
theorem BJ (h:bJ 109 #[am a] H fun b c=>ao b (Q (au none 0 0) c) (aN a fun b=>aB c (b.add 3) fun b=>cC (Instr.makeSlice 25 (ac 0) (ac b)) c fun b c d e=>aN a fun a=>aH e (a.add 1) fun a f _=>jO [au b c d,ac 0] e fun b c d e g i j k=>ax (au g i j) fun g=>ao (bv k (f:Int)) (bu k f a fun a=>aB e (bq a k 1) fun a=>ax (ac (bd (k+1))) fun f=>ao (decide (a≥0)) (cC (Builtin.append_ #[25,25] 25 #[g,au (some (aK e.size)) 1 1]) (aJ e #[ac k] 3) fun a g i j=>ck b c [au a g i,f] j d e) (ck b c [g,f] e d e)) (Q g e))):ae PP 283 #[.pointer a] Q H :=
 okL Tryz.func283 rfl (fun | 5=>some [(3,25),(18,3)] | _=>none) h
theorem BM (h:aE H F fun a=>aN a fun a=>aH H (a.add 1) fun a b _=>bu i b a fun a=>aB H (bq a i 1) fun a=>aE H F fun b=>aN b fun b=>aH H (b.add 1) fun b c _=>bu j c b fun b=>aB H (bq b j 1) fun b=>Q (ac (bd (a-b))) H):ae PP 285 #[ac i,ac j,.pointer (some F)] Q H :=
 okF Tryz.func285 rfl h
end
section
variable {Q:QT}{H:ag}
variable {a b c d A B D P:Option Addr}{i j k m n x y z I J K M N:Int}{l o r s u v L O R S U V:Nat}{t w T W:ByteArray}{e E g:Bool}{q:Option Nat}{p X Y Z:Value}{F G:Addr}
theorem F0 (h:ax (ox .i64 i 3) fun a=>((0:Int)<=a∧a<(4:Int))∧aB H (aY 0 (Int.toNat a*1)) fun a=>ax (cS (jR .i64 i 2) 65536) fun b=>ax (ac 0) fun c=>ax (decide (i<=0)) fun d=>ax (ac a) fun e=>ax (decide (jR .i64 i 2≥4096)) fun f=>ao (a == 1) (bJ 31 #[ac (jR .i64 i 1)] H fun g j=>ao (!g) (Q c j) (ao (a == 2) (ao (bv i 0) (Q c j) (ao f (Q c j) (ao (a == 3) (ao d (Q c j) (ao b (Q c j) (Q e j))) (Q e j)))) (ao (a == 3) (ao d (Q c j) (ao b (Q c j) (Q e j))) (Q e j)))) (ao (a == 2) (ao (bv i 0) (Q c H) (ao f (Q c H) (ao (a == 3) (ao d (Q c H) (ao b (Q c H) (Q e H))) (Q e H)))) (ao (a == 3) (ao d (Q c H) (ao b (Q c H) (Q e H))) (Q e H)))):ae PP 13 #[ac i] Q H :=
 okF Tryz.func13 rfl h
theorem zR (h:ao (decide (i≥(-1073741824))) (Q (bk (decide (i<=1073741823))) H) (Q (bk false) H)):ae PP 31 #[ac i] Q H :=
 okF Tryz.func31 rfl h
theorem FF (h:bJ 90 #[am a] H fun b c=>ao b (Q (ac 0) c) (aN a fun a=>aH c (a.add 1) fun _ a _=>Q (ac (a:Int)) c)):ae PP 34 #[.pointer a] Q H :=
 okF Tryz.func34 rfl h
theorem FQ (h:ax (bU #[am none,ac 1]) fun a=>ao (bv i 0) (Q a H) (ao (cS i 4096) (Q a H) (ax (H.push (.map #[] 0)) fun a=>Q (bU #[am (some (aK a.size)),ac 0]) (aJ a #[ac i,au none 0 0,ga (some H.size)] 143)))):ae PP 70 #[ac i] Q H :=
 okF Tryz.func70 rfl h
theorem AQ (h:Q (au (some (aK H.size)) 14 14) (aJ H #[aZ (⟨#[79,98,106,101,99,116]⟩:ByteArray),aZ (⟨#[85,110,100,101,102,105,110,101,100,79,98,106,101,99,116]⟩:ByteArray),aZ (⟨#[70,97,108,115,101]⟩:ByteArray),aZ (⟨#[84,114,117,101]⟩:ByteArray),aZ (⟨#[73,110,116,101,103,101,114]⟩:ByteArray),aZ (⟨#[83,121,109,98,111,108]⟩:ByteArray),aZ (⟨#[83,116,114,105,110,103]⟩:ByteArray),aZ (⟨#[65,114,114,97,121]⟩:ByteArray),aZ (⟨#[67,108,97,115,115]⟩:ByteArray),aZ (⟨#[77,101,116,104,111,100]⟩:ByteArray),aZ (⟨#[66,108,111,99,107]⟩:ByteArray),aZ (⟨#[67,111,110,116,101,120,116]⟩:ByteArray),aZ (⟨#[80,114,111,99,101,115,115]⟩:ByteArray),aZ (⟨#[77,101,115,115,97,103,101]⟩:ByteArray)] 9)):ae PP 71 #[] Q H :=
 okF Tryz.func71 rfl h
theorem Fj (h:ak 84 #[ac i] H fun a _ b=>Q (ac a) b):ae PP 73 #[ac i] Q H :=
 okF Tryz.func73 rfl h
theorem zG (h:ao (bv i 1) (Q (aF 0 1) H) (ao (cS i 65536) (Q (aF 0 1) H) (Q (aF (gQ .i64 i 2) 0) H))):ae PP 84 #[ac i] Q H :=
 okF Tryz.func84 rfl h
theorem FY (h:aT 13 #[ac i] H fun a b=>ao (a != 3) (Q (aF 0 10) b) (Q (aF (jR .i64 i 2) 0) b)):ae PP 89 #[ac i] Q H :=
 okF Tryz.func89 rfl h
theorem GM (h:ao (fi a) (Q (bk true) H) (aN a fun a=>mI H (a.add 2) fun a=>Q (bk (fi a)) H)):ae PP 90 #[.pointer a] Q H :=
 okF Tryz.func90 rfl h
theorem BA (h:ax (l:Int) fun b=>(((0:Int)<=b∧b<=(o:Int))∧(0:Int)<=b∧b<=b)∧ax (Int.toNat b) fun b=>Q (au a b b) H):ae PP 123 #[.slice a l o] Q H :=
 okF Tryz.func123 rfl h
theorem CP (h:ao (fi a) (Q (au none 0 0) H) (cC (Builtin.append_ #[30,30] 30 #[au (some (aK H.size)) 0 0,au a l o]) (aJ H #[] 26) fun a b c d=>Q (au a b c) d)):ae PP 124 #[.slice a l o] Q H :=
 okF Tryz.func124 rfl h
theorem Eh {g1:Array Value}{h1:Array Value}(h:aT 267 #[au a l o,.func (.func r) g1 h1] H fun a b=>Q (bk (decide (a≥0))) b):ae PP 143 #[.slice a l o,.func (.func r) g1 h1] Q H :=
 okF Tryz.func143 rfl h
theorem BY (h:bJ 90 #[am a] H fun b c=>ao b (Q (aF 0 2) c) (ao (bv (t.size:Int) 1) (Q (aF 0 61) c) (ao (cS (t.size:Int) 96) (Q (aF 0 61) c) (aN a fun b=>mI c (b.add 2) fun b=>wN (Instr.lookup 141 (ga b) (aZ t) true) c fun b c d=>ao c (Q (aF b 0) d) (aN a fun b=>aH d (b.add 1) fun _ b _=>aN a fun c=>aB d c fun c=>ao (decide ((b:Int)≥c)) (Q (aF 0 60) d) (aN a fun c=>aH d (c.add 1) fun c e f=>cC (Builtin.append_ #[61,61] 61 #[au c e f,au (some (aK d.size)) 1 1]) (aJ d #[aZ t] 9) fun c d e f=>aN a fun g=>bP f (g.add 1) (au c d e) fun c=>aN a fun a=>mI c (a.add 2) fun a=>cA (Instr.mapUpdate 141 (ga a) (aZ t) (ac (b:Int))) c fun a=>Q (aF (b:Int) 0) a)))))):ae PP 145 #[.pointer a,.string t] Q H :=
 okF Tryz.func145 rfl h
theorem B5 (h:ao (bv i 0) (Q (aF 0 1) H) (ao (decide (i≥4096)) (Q (aF 0 1) H) (Q (aF (xG .i64 (gQ .i64 i 2) 2) 0) H))):ae PP 146 #[ac i] Q H :=
 okF Tryz.func146 rfl h
theorem Dn (h:ak 268 #[ac i] H fun a _ b=>Q (ac a) b):ae PP 147 #[ac i] Q H :=
 okF Tryz.func147 rfl h
theorem EF (h:ax (bk false) fun a=>ao (iF t (⟨#[]⟩:ByteArray)) (Q a H) (ao (cS (t.size:Int) 32) (Q a H) (zr 0 t fun b=>ao (bv (b.toNat:Int) i) (Q a H) (zr 0 t fun b=>ao (cS (b.toNat:Int) j) (Q a H) (cC (convert 9 249 (aZ t)) H fun b c _ d=>cX [ac 0] d fun d e f g i=>ao (bv i (c:Int)) (bu i c b fun b=>∃ c,aq g (bq b i 1)=some (.int .u8 c)∧ax (ac (bd (i+1))) fun b=>ax (bv c 48) fun i=>ax (cS c 57) fun j=>ao (bv c 97) (ao (bv c 65) (ao i (Q a g) (ao j (Q a g) (ck d e [b] g f g))) (ao (cS c 90) (ao i (Q a g) (ao j (Q a g) (ck d e [b] g f g))) (ck d e [b] g f g))) (ao (cS c 122) (ao (bv c 65) (ao i (Q a g) (ao j (Q a g) (ck d e [b] g f g))) (ao (cS c 90) (ao i (Q a g) (ao j (Q a g) (ck d e [b] g f g))) (ck d e [b] g f g))) (ck d e [b] g f g))) (Q (bk true) g)))))):ae PP 149 #[.string t,.int .u8 i,.int .u8 j] Q H :=
 okL Tryz.func149 rfl (fun | 4=>some [(31,3)] | _=>none) h
theorem Ck (h:ax (bk false) fun a=>ao (iF t (⟨#[115,101,108,102]⟩:ByteArray)) (Q a H) (ao (iF t (⟨#[115,117,112,101,114]⟩:ByteArray)) (Q a H) (ao (iF t (⟨#[110,105,108]⟩:ByteArray)) (Q a H) (ao (iF t (⟨#[116,114,117,101]⟩:ByteArray)) (Q a H) (ao (iF t (⟨#[102,97,108,115,101]⟩:ByteArray)) (Q a H) (bJ 149 #[aZ t,.int .u8 97,.int .u8 122] H fun a b=>Q (bk a) b)))))):ae PP 154 #[.string t] Q H :=
 okF Tryz.func154 rfl h
theorem Co (h:aT 278 #[au a l o,aZ t] H fun a b=>Q (bk (decide (a≥0))) b):ae PP 155 #[.slice a l o,.string t] Q H :=
 okF Tryz.func155 rfl h
theorem DN (h:bJ 90 #[am a] H fun b c=>ao b (Q (ac 2) c) (ao (bv i 0) (Q (ac 1) c) (aN a fun b=>aH c (b.add 1) fun _ b _=>ao (cS i (b:Int)) (Q (ac 1) c) (aN a fun b=>aH c (b.add 1) fun _ b _=>cX [ac 0] c fun c d e f g=>ao (bv g (bd ((b:Int)-i))) (aN a fun b=>mI f (b.add 2) fun b=>aN a fun a=>aH f (a.add 1) fun a j _=>bu (bd (i+g)) j a fun a=>jT f (bq a (bd (i+g)) 1) fun a=>mH (Builtin.delete_ #[141,9] 0 #[ga b,aZ a]) (fun _ a=>True∧ck c d [ac (bd (g+1))] a e f) f) (aN a fun b=>aH f (b.add 1) fun b _ c=>((0:Int)<=i∧i<=(c:Int))∧aN a fun a=>bP f (a.add 1) (au b (Int.toNat i) c) fun a=>Q (ac 0) a))))):ae PP 163 #[.pointer a,ac i] Q H :=
 okL Tryz.func163 rfl (fun | 6=>some [(28,3)] | _=>none) h
theorem CF (h:ak 297 #[ac i,ac j,ac (bd (i+j))] H fun a b c=>Q (aF a b) c):ae PP 183 #[ac i,ac j] Q H :=
 okF Tryz.func183 rfl h
theorem CR (h:ak 297 #[ac i,ac j,ac (bd (i-j))] H fun a b c=>Q (aF a b) c):ae PP 184 #[ac i,ac j] Q H :=
 okF Tryz.func184 rfl h
theorem Eb (h:ak 297 #[ac i,ac j,ac (bd (i*j))] H fun a b c=>Q (aF a b) c):ae PP 185 #[ac i,ac j] Q H :=
 okF Tryz.func185 rfl h
theorem BR (h:cB 298 #[ac i,ac j] H fun a _ b c=>Q (aF a b) c):ae PP 186 #[ac i,ac j] Q H :=
 okF Tryz.func186 rfl h
theorem C7 (h:cB 298 #[ac i,ac j] H fun _ a b c=>Q (aF a b) c):ae PP 187 #[ac i,ac j] Q H :=
 okF Tryz.func187 rfl h
theorem Dg (h:ak 297 #[ac i,ac j,ac (ox .i64 i j)] H fun a b c=>Q (aF a b) c):ae PP 188 #[ac i,ac j] Q H :=
 okF Tryz.func188 rfl h
theorem EA (h:ak 297 #[ac i,ac j,ac (xG .i64 i j)] H fun a b c=>Q (aF a b) c):ae PP 189 #[ac i,ac j] Q H :=
 okF Tryz.func189 rfl h
theorem Cf (h:ak 297 #[ac i,ac j,ac (IC .i64 i j)] H fun a b c=>Q (aF a b) c):ae PP 190 #[ac i,ac j] Q H :=
 okF Tryz.func190 rfl h
theorem Cl (h:ao (bv j 0) (ax (bd (0-(if j<(-31) then -31 else j))) fun a=>ao (bv a 0) False (ak 297 #[ac i,ac j,ac (jR .i64 i a)] H fun a b c=>Q (aF a b) c)) (ao (bv (if 31<j then 31 else j) 0) False (ak 297 #[ac i,ac j,ac (gQ .i64 i (if 31<j then 31 else j))] H fun a b c=>Q (aF a b) c))):ae PP 191 #[ac i,ac j] Q H :=
 okF Tryz.func191 rfl h
theorem Dz {g1:Array Value}{h1:Array Value}(h:cX [ac 0] H fun b c d e f=>ao (bv f (l:Int)) (bu f l a fun a=>aB e (bq a f 1) fun a=>bJ r (g1++#[ac a]++h1) e fun a g=>ao a (Q (ac f) g) (ck b c [ac (bd (f+1))] g d e)) (Q (ac (-1)) e)):ae PP 267 #[.slice a l o,.func (.func r) g1 h1] Q H :=
 okL Tryz.func267 rfl (fun | 2=>some [(8,3)] | _=>none) h
theorem xS (h:bJ 31 #[ac i] H fun a b=>ao (!a) (Q (aF 0 1) b) (Q (aF (xG .i64 (gQ .i64 i 1) 1) 0) b)):ae PP 268 #[ac i] Q H :=
 okF Tryz.func268 rfl h
theorem Ct (h:aT 13 #[ac i] H fun a b=>ao (a != 1) (Q (aF 0 10) b) (Q (aF (jR .i64 i 1) 0) b)):ae PP 274 #[ac i] Q H :=
 okF Tryz.func274 rfl h
theorem Cx (h:cX [ac 0] H fun b c d e f=>ao (bv f (l:Int)) (bu f l a fun a=>jT e (bq a f 1) fun a=>ao (iF t a) (Q (ac f) e) (ck b c [ac (bd (f+1))] e d e)) (Q (ac (-1)) e)):ae PP 278 #[.slice a l o,.string t] Q H :=
 okL Tryz.func278 rfl (fun | 2=>some [(8,3)] | _=>none) h
theorem BI (h:bJ 31 #[ac i] H fun a b=>ao (!a) (Q (aF 0 1) b) (bJ 31 #[ac j] b fun a b=>ao (!a) (Q (aF 0 1) b) (aT 352 #[ac k] b fun a b=>Q (aF a 0) b))):ae PP 297 #[ac i,ac j,ac k] Q H :=
 okF Tryz.func297 rfl h
theorem CZ (h:bJ 31 #[ac i] H fun a b=>ax (ac 0) fun c=>ax (bU #[c,c,ac 1]) fun d=>ao (!a) (Q d b) (bJ 31 #[ac j] b fun a b=>ao (!a) (Q d b) (ao (j == 0) (Q (bU #[c,c,ac 11]) b) (ao (decide (j=0)) False (ao (decide (j=0)) False (ax (Int.tmod i j) fun a=>ax (bd (Int.tdiv i j)) fun d=>ao (a != 0) (ao (!(bv a 0 == bv j 0)) (aT 352 #[ac (bd (d-1))] b fun b d=>Q (bU #[ac b,ac (bd (a+j)),c]) d) (aT 352 #[ac d] b fun b d=>Q (bU #[ac b,ac a,c]) d)) (aT 352 #[ac d] b fun b d=>Q (bU #[ac b,ac a,c]) d))))))):ae PP 298 #[ac i,ac j] Q H :=
 okF Tryz.func298 rfl h
theorem C3 (h:bJ 31 #[ac i] H fun a b=>ao (!a) (Q (bU #[aZ (⟨#[]⟩:ByteArray),ac 1]) b) (gI 353 #[ac i] b fun a b=>Q (bU #[aZ a,ac 0]) b)):ae PP 301 #[ac i] Q H :=
 okF Tryz.func301 rfl h
theorem DC (h:aT 13 #[ac i] H fun a b=>ao (a != 2) (Q (aF 0 10) b) (Q (aF (jR .i64 i 2) 0) b)):ae PP 336 #[ac i] Q H :=
 okF Tryz.func336 rfl h
theorem DL (h:bJ 90 #[am a] H fun b c=>ax (aZ (⟨#[]⟩:ByteArray)) fun d=>ao b (Q (bU #[d,ac 2]) c) (ax (bU #[d,ac 61]) fun b=>ao (bv i 0) (Q b c) (aN a fun d=>aH c (d.add 1) fun _ d _=>ao (decide (i≥(d:Int))) (Q b c) (aN a fun a=>aH c (a.add 1) fun a b _=>bu i b a fun a=>jT c (bq a i 1) fun a=>Q (bU #[aZ a,ac 0]) c)))):ae PP 337 #[.pointer a,ac i] Q H :=
 okF Tryz.func337 rfl h
theorem Bq (h:Q (ac (jR .i64 (gQ .i64 i 33) 33)) H):ae PP 352 #[ac i] Q H :=
 okF Tryz.func352 rfl h
end
end Go.Proofs.YtgjfejoohojokaaGreatDoor
namespace Kw
open Go
theorem ah {p:Prop} [Decidable p] {X Y:Prop}:cond (decide p) X Y↔if p then X else Y:=by
 by_cases h:p <;> simp [h]
theorem tV {b:Bool}{X Y:Prop}:cond b X Y↔(b=true->X)∧(b=false->Y):=by cases b <;> simp
theorem aP {p:Prop} [Decidable p] {X Y:Prop} (h1:p->X) (h2:¬ p->Y):if p then X else Y:=by
 split
 ·rename_i h;exact h1 h
 ·rename_i h;exact h2 h
theorem az {n:Int} (h1:-9223372036854775808<=n) (h2:n<=9223372036854775807):IntKind.wrap .i64 n=n:=by
 simp only [IntKind.wrap,IntKind.bits,IntKind.signed];simp;omega
theorem yT {a b:ByteArray}:iF a b=true↔a=b:=by
 unfold iF;rw [beq_iff_eq,ByteArray.toList_eq,ByteArray.toList_eq];constructor
 ·intro h;obtain ⟨⟨a⟩⟩:=a;obtain ⟨⟨b⟩⟩:=b;simp only at h;rw [h]
 ·intro h;rw [h]
theorem kM (a b:ByteArray):iF a b=decide (a=b):=by
 rw [V7,yT];simp
abbrev aR:=List Nat
def Fr (F:aR) (H H':ag):Prop:=H.size<=H'.size∧∀ b,b<H.size->b∉F->H'[b]?=H[b]?
theorem Fr.refl (F:aR) (H:ag):Fr F H H:=⟨UI _,fun _ _ _=>rfl⟩
theorem Fr.trans {F:aR}{H H' H'':ag} (h:Fr F H H') (h':Fr F H' H''):Fr F H H'' :=
 ⟨Ux h.1 h'.1,fun b hb hn=>(h'.2 b (UJ hb h.1) hn).trans (h.2 b hb hn)⟩
theorem Fr.mono {F F':aR}{H H':ag} (h:Fr F H H') (hs:∀ b∈F,b∈F'):Fr F' H H':=⟨h.1,fun b hb hn=>h.2 b hb fun hm=>hn (hs b hm)⟩
theorem Fr.of_nil {F:aR}{H H':ag} (h:Fr [] H H'):Fr F H H':=h.mono (by simp)
theorem Fr.push (F:aR) (H:ag) (o:Obj):Fr F H (H.push o):=⟨by simp,fun b hb _=>by rw [VS];simp;omega⟩
def Up (F:aR) (H:ag) (F':aR) (H':ag):Prop:=Fr F H H'∧∀ b∈F',b∈F∨H.size<=b
theorem Up.refl (F:aR) (H:ag):Up F H F H:=⟨Fr.refl F H,fun _ h=>.inl h⟩
theorem Up.trans {F F' F'':aR}{H H' H'':ag} (h:Up F H F' H') (h':Up F' H' F'' H''):Up F H F'' H'':=by
 refine ⟨⟨Ux h.1.1 h'.1.1,fun b hb hn=>?_⟩,fun b hb=>?_⟩
 ·rw [h'.1.2 b (UJ hb h.1.1) fun hm=>(h.2 b hm).elim hn (fun JT=>absurd hb (by omega)),h.1.2 b hb hn]
 ·rcases h'.2 b hb with h1 | h1
  ·exact h.2 b h1
  ·exact .inr (Ux h.1.1 h1)
def bH (H:ag) (b:Nat) (c:Array Value):Prop:=∃ t,H[b]?=some (.cells c t (0,0))
theorem bH.lt {H:ag}{b:Nat}{c:Array Value} (h:bH H b c):b<H.size:=by
 obtain ⟨t,h⟩:=h;exact (UN.1 h).1
theorem bH.cell {H:ag}{b:Nat}{c:Array Value} (h:bH H b c) (o:Nat):aq H ⟨b,o,none⟩=c[o]?:=by
 obtain ⟨t,h⟩:=h;simp [aq,h]
theorem bH.frozen {H:ag}{b:Nat}{c:Array Value} (h:bH H b c) (o:Nat):oP H ⟨b,o,none⟩=false:=by
 obtain ⟨t,h⟩:=h;simp [oP,h]
theorem bH.wr {H:ag}{b:Nat}{c:Array Value} (h:bH H b c){o:Nat} (ho:o<c.size):Wr H ⟨b,o,none⟩ :=
 ⟨⟨c[o],by rw [h.cell];simp [ho]⟩,h.frozen o⟩
theorem bH.uniq {H:ag}{b:Nat}{c c':Array Value} (h:bH H b c) (h':bH H b c'):c=c':=by
 obtain ⟨t,h⟩:=h;obtain ⟨t',h'⟩:=h';rw [h] at h';cases h';rfl
theorem bH.of_eq {H H':ag}{b:Nat}{c:Array Value} (h:bH H b c) (he:H'[b]?=H[b]?):bH H' b c:=by
 obtain ⟨t,h⟩:=h;exact ⟨t,he.trans h⟩
theorem bH.fr {F:aR}{H H':ag}{b:Nat}{c:Array Value} (h:bH H b c) (hf:Fr F H H') (hb:b∉F):bH H' b c:=h.of_eq (hf.2 b h.lt hb)
theorem bH.push {H:ag}{b:Nat}{c:Array Value} (h:bH H b c) (o:Obj):bH (H.push o) b c:=h.fr (Fr.push [] H o) (by simp)
theorem bH.new (H:ag) (c:Array Value) (t:TypeId):bH (H.push (.cells c t)) H.size c:=⟨t,by simp⟩
theorem bR (H:ag) (a:Addr) (v:Value):(bc H a v).size=H.size:=by simp [bc]
theorem cK {H:ag}{a:Addr}{v:Value}{b:Nat} (h:b≠a.block):(bc H a v)[b]?=H[b]?:=by
 simp [bc,U2,V5 h]
theorem bH.set {H:ag}{b:Nat}{c:Array Value} (h:bH H b c) (o:Nat) (v:Value):bH (bc H ⟨b,o,none⟩ v) b (c.setIfInBounds o v):=by
 obtain ⟨t,h⟩:=h;exact ⟨t,by simp [bc,U2,h]⟩
theorem bH.set_ne {H:ag}{b:Nat}{c:Array Value} (h:bH H b c){a:Addr} (hb:b≠a.block) (v:Value):bH (bc H a v) b c:=h.of_eq (cK hb)
theorem Fr.set {F:aR}{H:ag}{a:Addr}{v:Value} (h:a.block∈F):Fr F H (bc H a v) :=
 ⟨by rw [bR];exact UI _,fun b _ hn=>cK fun e=>hn (e ▸ h)⟩
@[simp] theorem aC (b o n:Nat):(⟨b,o,none⟩:Addr).add n=⟨b,o+n,none⟩:=by
 unfold Addr.add;split <;> simp_all
theorem AO {P:Program}{α β:Type} (m:Sem α) (f:α->Sem β):∀ {Q:β->ag->Prop}{H:ag},cu P m (fun a H'=>cu P (f a) Q H') H->cu P (m.bind f) Q H:=by
 induction m with
 | pure a=>exact fun h=>h
 | load m a k ih=>exact fun ⟨v,hv,h⟩=>⟨v,hv,ih v h⟩
 | store m a v k ih=>exact fun ⟨h1,h2,h⟩=>⟨h1,h2,ih h⟩
 | new o k ih=>exact fun {Q H} h=>ih H.size h
 | shape r k ih=>exact fun h=>ih _ h
 | freeze a n k ih=>exact fun h=>ih h
 | frozen a k ih=>exact fun h=>ih _ h
 | getObj r k ih=>exact fun ⟨o,h1,h2,h⟩=>⟨o,h1,h2,ih o h⟩
 | setObj r o k ih=>exact fun ⟨h1,h⟩=>⟨h1,ih h⟩
 | choose q k ih =>
  intro Q H h;simp only [Sem.bind,cu] at h ⊢;split at h
  ·rename_i hf;rw [Ur hf];exact ih 0 h
  ·rename_i hf;rw [Uq hf];exact fun t=>ih _ (h t)
 | sys c k ih=>exact fun h=>h.elim
 | program k ih=>exact fun h=>ih P h
 | mark m k ih=>exact fun h=>ih h
 | halt h=>exact fun h=>h.elim
theorem ay {P:Program}{α β:Type}{m:Sem α}{f:α->Sem β}{Q:β->ag->Prop}{H:ag} (h:cu P m (fun a H'=>cu P (f a) Q H') H):cu P (m >>= f) Q H:=AO m f h
theorem bn {P:Program}{t:TypeId}{d:TypeDesc} (hu:P.underlying t=some d){Q:TypeDesc->ag->Prop}{H:ag} (h:Q d H):cu P (underlying t) Q H:=by
 show cu P (match P.underlying t with | some d => pure d | none => stuck "no such type") Q H
 rw [hu];exact h
theorem di {P:Program}{t:TypeId}{d:TypeInfo} (hu:P.info? t=some d){Q:TypeInfo->ag->Prop}{H:ag} (h:Q d H):cu P (typeInfo t) Q H:=by
 show cu P (match P.info? t with | some d => pure d | none => stuck "no such type") Q H
 rw [hu];exact h
theorem yk {P:Program}{src dst e:TypeId}{s:ByteArray}{Q:Value->ag->Prop}{H:ag} (h1:P.underlying src=some .string) (h2:P.underlying dst=some (.slice e)) (h3:P.underlying e=some (.int .u8))
  (h:∀ cap H',Fr [] H H'->(∀ i,i<s.size->aq H' ⟨H.size,i,none⟩=some (.int .u8 (((s[i]?.getD 0).toNat:Nat):Int)))->Q (.slice (some ⟨H.size,0,none⟩) s.size cap) H'):cu P (convert src dst (.string s)) Q H:=by
 refine ay (bn h1 (ay (bn h2 (ay (bn h3 ?_)))));show cu P (Conv.stringToBytes e s) Q H;unfold Conv.stringToBytes;simp only [cu,choose,newRow,newObj,bind,Sem.bind,Question.forced,U9,if_false,pure];intro t;generalize Hc:((s.data.map fun b=>Value.int .u8 b.toNat)++Array.replicate (Question.cut (.appendCap s.size 0 e) t-s.size) (.int .u8 0))=cs;have ll:jX (H.push (.cells cs e)) H.size=some (e,cs.size):=by simp [jX]
 simp only [markStringish,bind,Sem.bind,cu,shape,ll,freeze,pure];refine h _ _ ?_ ?_
 ·refine ⟨by simp [eG],fun b hb _=>?_⟩;simp only [eG,Nat.succ_ne_self,if_false,U2];rw [Uq (by omega),VS,Uq (by omega)]
 ·intro i hi;have hc:cs[i]?=some (.int .u8 (((s[i]?.getD 0).toNat:Nat):Int)):=by
   rw [←Hc,VC (by simpa using hi)];simp [hi];rfl
  have hb:(eG (H.push (.cells cs e)) ⟨H.size,cs.size,none⟩ 1)[H.size]?=some (.cells cs e (cs.size,cs.size+1)):=by
   simp only [eG,Nat.succ_ne_self,if_false,U2,Wl,if_true,Vw,beq_self_eq_true]
  have b8:aq (eG (H.push (.cells cs e)) ⟨H.size,cs.size,none⟩ 1) ⟨H.size,i,none⟩=cs[i]?:=by
   unfold aq;simp only [hb];rfl
  rw [←hc];exact b8
def aA (w:Int):Int :=
 if w % 2=1∧-2147483647<=w∧w<=2147483647 then 1
 else if w % 4=2∧0<=w∧w<16384 then 2
 else if w % 4=0∧0<w∧w<=262144 then 3
 else 0
def cP (w:Int):Prop:=aA w≠0
instance (w:Int):Decidable (cP w):=inferInstanceAs (Decidable (aA w≠0))
def Hv (n:Int):Prop:=-9223372036854775808<=n∧n<=9223372036854775807
theorem iC (x:Int):((BitVec.ofInt 64 x).toNat:Int)=x % 18446744073709551616:=by
 rw [BitVec.toNat_ofInt]
 have:(0:Int)<=x % ((2 ^ 64:Nat):Int):=Int.emod_nonneg _ (by decide);omega
theorem jx {n:Int} (h0:0<=n) (h1:n<=9223372036854775807):IntKind.wrap .i64 n=n:=az (by omega) h1
theorem mV (x:Int) (k m:Nat) (hm:m=2 ^ k-1) (hk:k<=62):ox .i64 x (m:Int)=x % ((2 ^ k:Nat):Int):=by
 have ly:0<2 ^ k:=Nat.two_pow_pos k;have pp:2 ^ k<=2 ^ 62:=Vy (by decide) hk;have So:(2:Nat) ^ 62=4611686018427387904:=by decide
 have e1:(BitVec.ofInt 64 x &&& BitVec.ofInt 64 (m:Int)).toNat=(BitVec.ofInt 64 x).toNat % 2 ^ k:=by
  rw [BitVec.toNat_and]
  have:(BitVec.ofInt 64 (m:Int)).toNat=2 ^ k-1:=by
   have:=iC (m:Int);omega
  rw [this,Nat.and_two_pow_sub_one_eq_mod]
 have e2:(((BitVec.ofInt 64 x).toNat % 2 ^ k:Nat):Int)=x % ((2 ^ k:Nat):Int):=by
  have h1:=iC x
  push_cast
  rw [h1];have hd:((2:Int) ^ k) ∣ 18446744073709551616:=by
   have:(18446744073709551616:Int)=2 ^ k*2 ^ (64-k):=by
    rw [←Int.pow_add,show k+(64-k)=64 by omega];decide
   exact ⟨_,this⟩
  exact Int.emod_emod_of_dvd x hd
 unfold ox;show IntKind.wrap .i64 (((BitVec.ofInt 64 x &&& BitVec.ofInt 64 (m:Int)).toNat:Nat):Int)=_;rw [e1,e2];have h3:0<=x % ((2 ^ k:Nat):Int):=Int.emod_nonneg _ (by omega);have h4:x % ((2 ^ k:Nat):Int)<((2 ^ k:Nat):Int):=Int.emod_lt_of_pos _ (by omega);exact jx h3 (by omega)
theorem HU (x:Int):ox .i64 x 3=x % 4:=mV x 2 3 rfl (by decide)
theorem xA (x:Int):ox .i64 x 1=x % 2:=mV x 1 1 rfl (by decide)
theorem Dl (x:Int):ox .i64 x 255=x % 256:=mV x 8 255 rfl (by decide)
theorem te (x:Int) (k:Nat) (hk:k<=64):jR .i64 x (k:Int)=x / ((2 ^ k:Nat):Int):=by
 unfold jR
 have:min (Int.toNat (k:Int)) (IntKind.bits .i64)=k:=by simp only [Uy,IntKind.bits];omega
 rw [this,Int.fdiv_eq_ediv_of_nonneg _ (Int.pow_nonneg (by decide))]
 push_cast
 rfl
theorem DT (x:Int):jR .i64 x 1=x / 2:=te x 1 (by decide)
theorem GU (x:Int):jR .i64 x 2=x / 4:=te x 2 (by decide)
theorem lK (x:Int) (k:Nat) (hk:k<=64) (h:Hv (x*((2 ^ k:Nat):Int))):gQ .i64 x (k:Int)=x*((2 ^ k:Nat):Int):=by
 unfold gQ
 have:min (Int.toNat (k:Int)) (IntKind.bits .i64)=k:=by simp only [Uy,IntKind.bits];omega
 rw [this];have e:x*2 ^ k=x*((2 ^ k:Nat):Int):=by push_cast;rfl
 rw [e];exact az h.1 h.2
theorem oX (x:Int) (k m:Nat) (hk:k<=62) (hm:m<2 ^ k) (h:Hv x) (hx:x % ((2 ^ k:Nat):Int)=0):xG .i64 x (m:Int)=x+m:=by
 have pp:2 ^ k<=2 ^ 62:=Vy (by decide) hk;have So:(2:Nat) ^ 62=4611686018427387904:=by decide
 have ly:0<2 ^ k:=Nat.two_pow_pos k;unfold xG;show IntKind.wrap .i64 (((BitVec.ofInt 64 x ||| BitVec.ofInt 64 (m:Int)).toNat:Nat):Int)=_;rw [BitVec.toNat_or];have Sp:(BitVec.ofInt 64 (m:Int)).toNat=m:=by have:=iC (m:Int);omega
 have OP:=iC x;obtain ⟨q,hq⟩:∃ q,(BitVec.ofInt 64 x).toNat=2 ^ k*q:=by
  have hd:((2 ^ k:Nat):Int) ∣ 18446744073709551616:=by
   have:(18446744073709551616:Int)=((2 ^ k:Nat):Int)*((2 ^ (64-k):Nat):Int):=by
    rw [←W5,←Nat.pow_add,show k+(64-k)=64 by omega];decide
   exact ⟨_,this⟩
  have h0:(((BitVec.ofInt 64 x).toNat:Int)) % ((2 ^ k:Nat):Int)=0:=by
   rw [OP,Int.emod_emod_of_dvd x hd,hx]
  exact Nat.dvd_of_mod_eq_zero (by exact_mod_cast h0)
 rw [Sp,hq,←Nat.two_pow_add_eq_or_of_lt hm,←hq]
 push_cast
 rw [OP];simp only [IntKind.wrap,IntKind.bits,IntKind.signed];obtain ⟨h1,h2⟩:=h;simp;have qz:x+(m:Int)<9223372036854775808:=by
  obtain ⟨r,hr⟩:=Int.dvd_of_emod_eq_zero hx;have h9:(9223372036854775808:Int)=((2 ^ k:Nat):Int)*((2 ^ (63-k):Nat):Int):=by
   rw [←W5,←Nat.pow_add,show k+(63-k)=63 by omega];decide
  have MU:r<((2 ^ (63-k):Nat):Int):=by
   by_cases h:r<((2 ^ (63-k):Nat):Int)
   ·exact h
   ·have h:((2 ^ (63-k):Nat):Int)<=r:=by omega
    have:=WH h (by omega:(0:Int)<=((2 ^ k:Nat):Int));omega
  have:((2 ^ k:Nat):Int)*(r+1)<=((2 ^ k:Nat):Int)*((2 ^ (63-k):Nat):Int):=WH (by omega) (by omega);rw [Int.mul_add,Int.mul_one] at this;omega
 omega
theorem IL (n:Int) (h:Hv (2*n)):xG .i64 (2*n) 1=2*n+1:=oX (2*n) 1 1 (by decide) (by decide) h (by simp)
theorem IJ (n:Int) (h:Hv (4*n)):xG .i64 (4*n) 2=4*n+2:=oX (4*n) 2 2 (by decide) (by decide) h (by simp)
theorem CJ (x k:Int) (hk:0<k):Int.tmod x k=if 0<=x then x % k else -((-x) % k):=by
 split
 ·rename_i h;exact Int.tmod_eq_emod_of_nonneg h
 ·rename_i h
  have:Int.tmod x k=-Int.tmod (-x) k:=by rw [Int.neg_tmod,Int.neg_neg]
  rw [this,Int.tmod_eq_emod_of_nonneg (by omega)]
theorem xj (x k:Int):Int.tdiv x k=if 0<=x then x / k else -((-x) / k):=by
 split
 ·rename_i h;exact Wf h
 ·rename_i h
  have:Int.tdiv x k=-Int.tdiv (-x) k:=by rw [Int.neg_tdiv,Int.neg_neg]
  rw [this,Wf (by omega)]
theorem bI (a b:Int):(a == b)=decide (a=b):=by rw [V7];simp
theorem bK (a b:Int):(a != b)=decide (a≠b):=by rw [V7];simp
theorem bl (w:Int):(aA w=1∧w % 2=1∧-2147483647<=w∧w<=2147483647)∨(aA w=2∧w % 4=2∧0<=w∧w<16384)∨(aA w=3∧w % 4=0∧0<w∧w<=262144) ∨
  (aA w=0∧¬ (w % 2=1∧-2147483647<=w∧w<=2147483647)∧¬ (w % 4=2∧0<=w∧w<16384)∧¬ (w % 4=0∧0<w∧w<=262144)):=by
 unfold aA;split
 ·rename_i h;exact .inl ⟨rfl,h⟩
 ·split
  ·rename_i h;exact .inr (.inl ⟨rfl,h⟩)
  ·split
   ·rename_i h;exact .inr (.inr (.inl ⟨rfl,h⟩))
   ·rename_i h1 h2 h3;exact .inr (.inr (.inr ⟨rfl,h1,h2,h3⟩))
end Kw
namespace Go.Proofs.YtgjfejoohojokaaGreatDoor
open Kw
def dT (H:ag):Prop:=aq H ⟨aS,0,none⟩=some (ac 3)∧aq H ⟨aS,1,none⟩=some (ac 1)∧aq H ⟨aS,2,none⟩=some (ac 2)∧aq H ⟨aS,3,none⟩=some (ac 1)
theorem dT.fr {F:aR}{H H':ag} (h:dT H) (hf:Fr F H H') (hn:aS∉F):dT H':=by
 have hb:aS<H.size:=by
  have h0:=h.1;unfold aq at h0;rcases Vp aS H.size with h1 | h1
  ·exact h1
  ·simp only [Ve h1] at h0;cases h0
 have he:=hf.2 _ hb hn;unfold dT aq at *;simp only [he];exact h
theorem Cs {n:Int}{Q:QT}{H:ag} (h:Q (.bool (decide (-1073741824<=n∧n<=1073741823))) H):ae PP 31 #[ac n] Q H:=by
 apply zR;dsimp only [bk,ao];simp only [ah];split
 ·rename_i h1;have h1:-1073741824<=n:=h1;simpa [h1] using h
 ·rename_i h1;have h1:¬ -1073741824<=n:=h1;simpa [h1] using h
theorem jF {w:Int}{Q:QT}{H:ag} (hk:dT H) (h:Q (ac (aA w)) H):ae PP 13 #[ac w] Q H:=by
 apply F0;dsimp only [aY,bJ,ao,cS,bv,aB,ac,ax];have fin:∀ c,aA w=c->Q (ac c) H:=fun c hc=>hc ▸ h;simp only [HU,DT,GU,aC,UE,UC,bI,ah];refine ⟨⟨by omega,by omega⟩,?_⟩;obtain ⟨k0,k1,k2,k3⟩:=hk;have hm:w % 4=0∨w % 4=1∨w % 4=2∨w % 4=3:=by omega
 have kc:=bl w;rcases hm with hm | hm | hm | hm <;> rw [hm]
 ·refine ⟨3,k0,?_⟩;simp only [show ¬ (3:Int)=1 by decide,show ¬ (3:Int)=2 by decide,if_false,if_true]
  repeat' split
  all_goals exact fin _ (by omega)
 ·refine ⟨1,k1,?_⟩;simp only [if_true,show ¬ (1:Int)=3 by decide,show ¬ (1:Int)=2 by decide,if_false];refine Cs ⟨_,rfl,?_⟩;simp only [tV];refine ⟨fun h1=>fin _ ?_,fun h1=>fin _ ?_⟩
  ·have:¬ (-1073741824<=w / 2∧w / 2<=1073741823):=by rw [WT] at h1;exact of_decide_eq_false h1
   omega
  ·have:(-1073741824<=w / 2∧w / 2<=1073741823):=by simpa using h1
   omega
 ·refine ⟨2,k2,?_⟩;simp only [show ¬ (2:Int)=1 by decide,show ¬ (2:Int)=3 by decide,if_false,if_true]
  repeat' split
  all_goals exact fin _ (by omega)
 ·refine ⟨1,k3,?_⟩;simp only [if_true,show ¬ (1:Int)=3 by decide,show ¬ (1:Int)=2 by decide,if_false];refine Cs ⟨_,rfl,?_⟩;simp only [tV];refine ⟨fun h1=>fin _ ?_,fun h1=>fin _ ?_⟩
  ·have:¬ (-1073741824<=w / 2∧w / 2<=1073741823):=by rw [WT] at h1;exact of_decide_eq_false h1
   omega
  ·have:(-1073741824<=w / 2∧w / 2<=1073741823):=by simpa using h1
   omega
theorem EZ {n:Int}{Q:QT}{H:ag} (hn:-1073741824<=n∧n<=1073741823) (h:Q (.tuple #[ac (2*n+1),ac 0]) H):ae PP 268 #[ac n] Q H:=by
 apply xS;dsimp only [aF,bJ,ao,ac];refine Cs ⟨_,rfl,?_⟩;have e:gQ .i64 n 1=2*n:=by
  have:=lK n 1 (by decide) ⟨by simp;omega,by simp;omega⟩;simpa [WW] using this
 rw [e,IL n ⟨by omega,by omega⟩];simpa [hn] using h
theorem A5 {n:Int}{Q:QT}{H:ag} (hn:0<=n∧n<4096) (h:Q (.tuple #[ac (4*n+2),ac 0]) H):ae PP 146 #[ac n] Q H:=by
 apply B5;dsimp only [aF,ao,bv];have e:gQ .i64 n 2=4*n:=by
  have:=lK n 2 (by decide) ⟨by simp;omega,by simp;omega⟩;simpa [WW] using this
 rw [e,IJ n ⟨by omega,by omega⟩];simp only [ah];rw [Uq (by omega),Uq (by omega)];exact h
theorem oo {n:Int}{Q:QT}{H:ag} (hn:1<=n∧n<=65536) (h:Q (.tuple #[ac (4*n),ac 0]) H):ae PP 84 #[ac n] Q H:=by
 apply zG;dsimp only [aF,ao,cS,bv];have e:gQ .i64 n 2=4*n:=by
  have:=lK n 2 (by decide) ⟨by simp;omega,by simp;omega⟩;simpa [WW] using this
 rw [e];simp only [ah];rw [Uq (by omega),Uq (by omega)];exact h
theorem Fa {n:Int}{Q:QT}{H:ag} (hn:n<1∨65536<n) (h:Q (.tuple #[ac 0,ac 1]) H):ae PP 84 #[ac n] Q H:=by
 apply zG;dsimp only [aF,ao,cS,bv];simp only [ah];split
 ·exact h
 ·rw [Ur (by omega)];exact h
def mE (k:Int) (f:Int->Int) (w:Int):Value:=if aA w=k then .tuple #[ac (f w),ac 0] else .tuple #[ac 0,ac 10]
theorem ph {w:Int}{Q:QT}{H:ag} (hk:dT H) (h:Q (mE 1 (· / 2) w) H):ae PP 274 #[ac w] Q H:=by
 apply Ct;dsimp only [aF,aT,ao,ac];refine jF hk ⟨_,rfl,?_⟩;simp only [bK,ah,DT];unfold mE at h;split
 ·rename_i h1;rw [Uq h1] at h;exact h
 ·rename_i h1;rw [Ur (by simpa using h1)] at h;exact h
theorem sK {w:Int}{Q:QT}{H:ag} (hk:dT H) (h:Q (mE 2 (· / 4) w) H):ae PP 336 #[ac w] Q H:=by
 apply DC;dsimp only [aF,aT,ao,ac];refine jF hk ⟨_,rfl,?_⟩;simp only [bK,ah,GU];unfold mE at h;split
 ·rename_i h1;rw [Uq h1] at h;exact h
 ·rename_i h1;rw [Ur (by simpa using h1)] at h;exact h
theorem jP {w:Int}{Q:QT}{H:ag} (hk:dT H) (h:Q (mE 3 (· / 4) w) H):ae PP 89 #[ac w] Q H:=by
 apply FY;dsimp only [aF,aT,ao,ac];refine jF hk ⟨_,rfl,?_⟩;simp only [bK,ah,GU];unfold mE at h;split
 ·rename_i h1;rw [Uq h1] at h;exact h
 ·rename_i h1;rw [Ur (by simpa using h1)] at h;exact h
theorem dN {n:Int}{Q:QT}{H:ag} (hn:1<=n∧n<=65536) (h:Q (ac (4*n)) H):ae PP 73 #[ac n] Q H:=by
 apply Fj;exact oo hn ⟨_,_,rfl,h⟩
theorem kK {n:Int}{Q:QT}{H:ag} (hn:-1073741824<=n∧n<=1073741823) (h:Q (ac (2*n+1)) H):ae PP 147 #[ac n] Q H:=by
 apply Dn;exact EZ hn ⟨_,_,rfl,h⟩
end Go.Proofs.YtgjfejoohojokaaGreatDoor
namespace Kw
open Go
def bj (P:Program) (t:TypeId):Option (Nat × Nat × Option Value) :=
 match P.underlying t with
 | some (.slice e)=>(P.info? e).map fun i=>(i.size,i.bytes,i.zero)
 | _=>none
theorem fS {P:Program}{t k bs:Nat}{z:Option Value} (h:bj P t=some (k,bs,z)):∃ e i,P.underlying t=some (.slice e)∧P.info? e=some i∧i.size=k∧i.bytes=bs∧i.zero=z:=by
 unfold bj at h;split at h
 ·rename_i e he;cases hi:P.info? e with
  | none=>simp [hi] at h
  | some i=>simp [hi] at h;exact ⟨e,i,he,hi,h⟩
 ·cases h
section evS
variable {P:Program}{H:ag}
theorem jn {t:TypeId}{i:TypeInfo} (hi:P.info? t=some i){Q:Nat->ag->Prop} (h:Q i.size H):cu P (Go.sizeOf t) Q H :=
 ay (di hi h)
theorem eb {t:TypeId}{i:TypeInfo}{z:Value} (hi:P.info? t=some i) (hz:i.zero=some z){Q:Value->ag->Prop} (h:Q z H):cu P (zeroValue t) Q H :=
 ay (di hi (by rw [hz];exact h))
theorem dX {α:Type}{a:α}{Q:α->ag->Prop} (h:Q a H):cu P (Sem.pure a) Q H:=h
theorem jZ {n:Nat}{Q:Unit->ag->Prop} (h:Q () H):cu P (askRoom n) Q H:=by
 unfold askRoom;split
 ·exact h
 ·exact h
theorem yH (z:Value) (n:Nat) (hz:z.cells=#[z]):(Array.range n).map (fun i=>z.cells[i % z.cells.size]!)=Array.replicate n z:=by
 rw [hz];apply W4
 ·simp
 ·intro i h1 h2;simp [Nat.mod_one]
theorem eA {T:TypeId}{bs:Nat}{z:Value}{l c:Int}{Q:Value->ag->Prop} (hs:bj P T=some (1,bs,some z)) (hz:z.cells=#[z]) (h0:0<=l) (h1:l<=c) (h2:c<=1099511627776) (hb:bs<=128)
  (h:∀ e,Q (.slice (some ⟨H.size,0,none⟩) l.toNat c.toNat) (H.push (.cells (Array.replicate c.toNat z) e))):cu P (Instr.makeSlice T (.int .i64 l) (.int .i64 c)) Q H:=by
 obtain ⟨e,i,hu,hi,hk,Lh,LJ⟩:=fS hs;unfold Instr.makeSlice;refine ay (bn hu ?_);refine ay ?_;show cu P (asInt (.int .i64 l)) _ H;simp only [asInt,asIntOf,bind,Sem.bind,pure,cu];refine ay (di hi ?_);have wl:IntKind.i64.wrap l=l:=az (by omega) (by omega);have wc:IntKind.i64.wrap c=c:=az (by omega) (by omega);have hbc:(bs:Int)*c<=128*1099511627776:=by
  refine Int.le_trans (Int.mul_le_mul_of_nonneg_right (by omega:(bs:Int)<=128) (by omega)) (by omega)
 have Nm:(decide (c<0) || decide ((i.bytes:Int)*c > 2 ^ 48) || decide (l<0) || decide (l > c))=false:=by
  rw [Lh];have e1:¬ c<0:=by omega
  have e2:¬ (bs:Int)*c > 2 ^ 48:=by
   have:(2:Int) ^ 48=281474976710656:=by decide
   omega
  have e3:¬ l<0:=by omega
  have e4:¬ l > c:=by omega
  simp only [e1,e2,e3,e4,decide_false,Bool.or_false]
 simp only [wl,wc,Nm,U9,if_false];refine ay (jZ ?_);refine ay (jn hi ?_);rw [hk,UC];by_cases hc:c.toNat=0
 ·simp only [hc,if_true,newRow,newObj,bind,Sem.bind,pure,cu]
  have:=h e;rw [hc] at this;have e0:∀ f:Nat->Value,(Array.range 0).map f=Array.replicate 0 z:=fun f=>by apply W4 <;> simp
  rw [e0];exact this
 ·simp only [hc,if_false];refine ay (eb hi LJ ?_);simp only [newRow,newObj,bind,Sem.bind,pure,cu];rw [yH z _ hz];exact h e
end evS
def cZ (k:Nat) (H:ag) (a:Option Addr) (l c:Nat) (xs:List Value) (F:aR):Prop :=
 xs.length=l*k∧l<=c∧((a=none∧c=0∧F=[])∨∃ b cs,a=some ⟨b,0,none⟩∧F=[b]∧bH H b cs∧cs.size=c*k∧cs.toList.take (l*k)=xs)
def Rd (k:Nat) (H:ag) (a:Option Addr) (l:Nat) (ys:List Value):Prop :=
 ys.length=l*k∧(a=none->l=0)∧∀ p,a=some p->∀ i,i<l*k->aq H (p.add i)=ys[i]?
theorem cZ.nil (k:Nat) (H:ag):cZ k H none 0 0 [] []:=⟨by simp,UI _,.inl ⟨rfl,rfl,rfl⟩⟩
theorem cZ.len {k:Nat}{H:ag}{a:Option Addr}{l c:Nat}{xs:List Value}{F:aR} (h:cZ k H a l c xs F):xs.length=l*k:=h.1
theorem cZ.lt {k:Nat}{H:ag}{a:Option Addr}{l c:Nat}{xs:List Value}{F:aR} (h:cZ k H a l c xs F):∀ b∈F,b<H.size:=by
 rcases h.2.2 with ⟨_,_,rfl⟩ | ⟨b,cs,_,rfl,hb,_⟩
 ·simp
 ·intro b' b8;simp at b8;subst b8;exact hb.lt
theorem cZ.keep {k:Nat}{H H':ag}{a:Option Addr}{l c:Nat}{xs:List Value}{F:aR} (h:cZ k H a l c xs F) (he:∀ b∈F,H'[b]?=H[b]?):cZ k H' a l c xs F:=by
 refine ⟨h.1,h.2.1,h.2.2.imp id ?_⟩;rintro ⟨b,cs,h1,rfl,h3,h4⟩;exact ⟨b,cs,h1,rfl,h3.of_eq (he b (by simp)),h4⟩
theorem cZ.fr {k:Nat}{H H':ag}{a:Option Addr}{l c:Nat}{xs:List Value}{F G:aR} (h:cZ k H a l c xs F) (hf:Fr G H H') (hd:∀ b∈F,b∉G):cZ k H' a l c xs F :=
 h.keep fun b hb=>hf.2 b (h.lt b hb) (hd b hb)
theorem cZ.rd {k:Nat}{H:ag}{a:Option Addr}{l c:Nat}{xs:List Value}{F:aR} (h:cZ k H a l c xs F):Rd k H a l xs:=by
 refine ⟨h.1,fun ha=>?_,fun p hp i hi=>?_⟩
 ·rcases h.2.2 with ⟨_,hc,_⟩ | ⟨b,cs,h1,_⟩
  ·have:=h.2.1;omega
  ·rw [h1] at ha;cases ha
 ·rcases h.2.2 with ⟨h0,_,_⟩ | ⟨b,cs,h1,_,h3,h4,h5⟩
  ·rw [h0] at hp;cases hp
  ·rw [h1] at hp;cases hp;rw [aC,UE,h3.cell,←h5,VQ hi];simp
theorem Rd.fr {k:Nat}{H H':ag}{a:Option Addr}{l:Nat}{ys:List Value} (h:Rd k H a l ys) (he:∀ p,a=some p->H'[p.block]?=H[p.block]?):Rd k H' a l ys:=by
 refine ⟨h.1,h.2.1,fun p hp i hi=>?_⟩;rw [←h.2.2 p hp i hi];unfold aq
 have:(p.add i).block=p.block:=by unfold Addr.add;split <;> rfl
 rw [this,he p hp]
section
variable {P:Program}
theorem iM {a:Addr}:∀ (ys:List Value) (i:Nat) (acc:Array Value){Q:Array Value->ag->Prop}{H:ag},
  (∀ j,j<ys.length->aq H (a.add (i+j))=ys[j]?)->Q (acc++ys.toArray) H->cu P (loadCellsFrom a i ys.length acc) Q H
 | [],i,acc,Q,H,_,h=>by simpa [loadCellsFrom,cu,pure] using h
 | y :: r,i,acc,Q,H,hc,h=>by
  refine ⟨y,by simpa using hc 0 (by simp),?_⟩;refine iM r (i+1) (acc.push y) (fun j hj=>?_) ?_
  ·have:=hc (j+1) (by simpa using hj);rw [show i+1+j=i+(j+1) by omega];simpa using this
  ·simpa using h
theorem dm {k:Nat}{H:ag}{a:Option Addr}{l n c:Nat}{ys:List Value}{Q:Array Value->ag->Prop} (hr:Rd k H a l ys) (hn:n<=l) (h:Q (ys.take (n*k)).toArray H) :
  cu P (Builtin.firstCells k n (.slice a l c)) Q H:=by
 cases a with
 | none =>
  have hl:=hr.2.1 rfl;subst hl
  have:ys=[]:=UX (by rw [hr.1];simp);subst this;simpa [Builtin.firstCells,cu,pure] using h
 | some p =>
  have pp:n*k<=ys.length:=by rw [hr.1];exact VZ k hn
  have ai:(ys.take (n*k)).length=n*k:=by simp [pp]
  show cu P (loadCellsFrom p 0 (n*k) #[]) Q H;rw [←ai];refine iM _ 0 #[] (fun j hj=>?_) (by simpa using h);rw [ai] at hj;rw [UE,hr.2.2 p rfl j (by rw [←hr.1];omega),VQ hj]
def fM (cs:Array Value) (o:Nat) (vs:List Value):Array Value:=(cs.toList.take o++vs++cs.toList.drop (o+vs.length)).toArray
theorem tR (cs:Array Value) (o:Nat) (v:Value) (vs:List Value) (h:o<cs.size):fM (cs.setIfInBounds o v) (o+1) vs=fM cs o (v :: vs):=by
 unfold fM
 congr 1
 rw [Array.toList_setIfInBounds];have h1:(cs.toList.set o v).take (o+1)=cs.toList.take o++[v]:=by
  rw [Wx (by simpa using h),List.take_set_of_le (UI _)];simp
 have h2:(cs.toList.set o v).drop (o+1+vs.length)=cs.toList.drop (o+(v :: vs).length):=by
  rw [List.drop_set_of_lt (by omega)]
  congr 1
  simp;omega
 rw [h1,h2];simp
theorem eP {b:Nat}{t:TypeId}:∀ (vs:List Value) (o i:Nat) (cs:Array Value){Q:Unit->ag->Prop}{H:ag},(∀ v∈vs,ge v=true)->H[b]?=some (.cells cs t (0,0))->o+i+vs.length<=cs.size ->
  (∀ H',H'[b]?=some (.cells (fM cs (o+i) vs) t (0,0))->H'.size=H.size->(∀ b',b'≠b->H'[b']?=H[b']?)->Q () H')->cu P (storeCells ⟨b,o,none⟩ vs i) Q H
 | [],o,i,cs,Q,H,_,hb,_,h=>by
  refine h H ?_ rfl fun _ _=>rfl;rw [hb];simp [fM]
 | v :: r,o,i,cs,Q,H,h1,hb,ai,h=>by
  have hB:bH H b cs:=⟨t,hb⟩;simp only [US] at ai;refine ⟨h1 v (by simp),?_,?_⟩
  ·rw [aC];exact hB.wr (by omega)
  ·rw [aC];have b8:(bc H ⟨b,o+i,none⟩ v)[b]?=some (.cells (cs.setIfInBounds (o+i) v) t (0,0)):=by
    simp [bc,U2,hb]
   refine eP r o (i+1) _ (fun u hu=>h1 u (by simp [hu])) b8 (by simp;omega) fun H' g1 g2 g3=>h H' ?_ (by rw [g2,bR]) fun b' b8=>?_
   ·rw [g1,show o+(i+1)=o+i+1 by omega,tR _ _ _ _ (by omega)]
   ·rw [g3 b' b8,cK b8]
theorem mQ (need:Nat):∀ (r c:Nat),c<=need->Builtin.growBy need r c<=need+(need+768) / 4
 | 0,c,h=>by simp only [Builtin.growBy];omega
 | r+1,c,h=>by
  simp only [Builtin.growBy];split
  ·omega
  ·by_cases h2:c+(c+768) / 4<=need
   ·exact mQ need r _ h2
   ·cases r with
    | zero=>simp only [Builtin.growBy];omega
    | succ r=>simp only [Builtin.growBy];rw [Ur (by omega)];omega
theorem gS {need c:Nat} (h:c<need):Builtin.nextslicecap need c<=2*need+512:=by
 unfold Builtin.nextslicecap;split
 ·omega
 ·split
  ·omega
  ·have:=mQ need 4 c (by omega);omega
theorem mT {need c:Nat} (h:c<need):Builtin.nextslicecap need c<=need+need / 4+1000:=by
 unfold Builtin.nextslicecap;split
 ·omega
 ·split
  ·omega
  ·have:=mQ need 4 c (by omega);omega
def pY (P:Program) (t:TypeId):Bool:=match P.underlying t with | some (.slice _)=>true | _=>false
theorem ld {T T' T0 k bs:Nat}{z:Value}{H:ag}{a a2:Option Addr}{l c l2 c2:Nat}{xs ys:List Value}{F:aR}{Q:Value->ag->Prop} (hs:bj P T=some (k,bs,some z)) (hz:z.cells.size=k) (hT:pY P T'=true)
  (ho:cZ k H a l c xs F) (hr:Rd k H a2 l2 ys) (uD:∀ v∈ys,ge v=true) (Pp:∀ c,c<l+l2->Builtin.nextslicecap (l+l2) c*bs<=281474976710656) (Jj:bs≠0)
  (h:∀ a' c' F' H',cZ k H' a' (l+l2) c' (xs++ys) F'->Up F H F' H'->(∀ b∈F',b<H'.size)->Q (.slice a' (l+l2) c') H') :
  cu P (Builtin.append_ #[T,T'] T0 #[.slice a l c,.slice a2 l2 c2]) Q H:=by
 obtain ⟨e,i,hu,hi,hk,hb,LJ⟩:=fS hs;obtain ⟨d,hd,JP⟩:∃ d,P.underlying T'=some (.slice d)∧True:=by
  unfold pY at hT;split at hT
  ·rename_i d hd;exact ⟨d,hd,trivial⟩
  ·cases hT
 show cu P (do
  let .slice elem ← underlying T | stuck "append: slice type expected"
  _) Q H
 refine ay (bn hu ?_);refine ay (jn hi ?_);rw [hk];refine ay (ay (bn hd ?_));simp only [pure,List.getElem_toArray,List.getElem_cons_succ,List.getElem_cons_zero];refine ay (dX ?_);simp only [U9,if_false,UG,if_true];refine ay (show cu P (Builtin.lenOf (.slice a2 l2 c2)) _ H from ?_);refine dX ?_;by_cases q6:l+l2<=c
 ·simp only [q6,if_true];refine ay (dm hr (UI _) ?_);have Nn:ys.take (l2*k)=ys:=UY (by rw [hr.1];exact UI _);rw [Nn];rcases ho.2.2 with ⟨rfl,JU,rfl⟩ | ⟨b,cs,rfl,rfl,⟨t,hB⟩,hsz,ix⟩
  ·have JV:l=0:=by omega
   have Pq:l2=0:=by omega
   subst JV;subst Pq;have At:ys=[]:=UX (by rw [hr.1];simp);have Sq:xs=[]:=UX (by rw [ho.1];simp);subst At;subst Sq;subst JU;exact h none 0 [] H (cZ.nil k H) (Up.refl _ _) (by simp)
  ·dsimp only;rw [aC,UE];refine ay ?_;have J5:l*k+0+ys.length<=cs.size:=by rw [hr.1,hsz,WX,←V2];exact VZ k q6
   refine eP ys (l*k) 0 cs uD hB J5 fun H' g1 g2 g3=>?_;refine h _ _ [b] H' ⟨by rw [UP,ho.1,hr.1,V2],q6,.inr ⟨b,_,rfl,rfl,⟨t,g1⟩,?_,?_⟩⟩ ⟨⟨by omega,fun b' _ hn=>g3 b' (by simpa using hn)⟩,fun b' b8=>.inl b8⟩ ?_
   ·simp only [fM,VD,UP,U4,Wb,Array.length_toList];omega
   ·simp only [fM,WX];have e1:cs.toList.take (l*k)++ys=xs++ys:=by rw [ix]
    rw [e1,VB (by rw [UP,ho.1,hr.1,V2];exact UI _)];exact UY (by rw [UP,ho.1,hr.1,V2];exact UI _)
   ·intro b' b8;simp at b8;subst b8;exact (UN.1 g1).1
 ·simp only [q6,if_false];have J6:¬ (((l+l2:Nat):Int) > IntKind.i64.max∧(False∨i.bytes=0)):=by
   rintro ⟨_,h | h⟩
   ·exact h
   ·rw [hb] at h;exact Jj h
  refine ay (di hi ?_);simp only [J6,if_false];refine ay (di hi ?_);have J7:¬ Builtin.nextslicecap (l+l2) c*i.bytes > 2 ^ 48:=by
   rw [hb]
   have:=Pp c (by omega);omega
  simp only [J7,if_false];refine ay ?_;simp only [choose,cu,Question.forced,U9,if_false];intro t;have J8:l+l2<=Question.cut (.appendCap (l+l2) c e) t:=by simp only [Question.cut];omega
  generalize Question.cut (.appendCap (l+l2) c e) t=cap' at J8;refine ay (di hi ?_);refine ay (jZ ?_);refine ay (dm (ho.rd) (UI _) ?_);refine ay (dm hr (UI _) ?_);refine ay (eb hi LJ ?_);have Rr:xs.take (l*k)=xs:=UY (by rw [ho.1];exact UI _);have Nn:ys.take (l2*k)=ys:=UY (by rw [hr.1];exact UI _);rw [Rr,Nn];simp only [newRow,newObj,bind,Sem.bind,pure,cu];refine h _ _ [H.size] _ ⟨by rw [UP,ho.1,hr.1,V2],J8,.inr ⟨H.size,_,rfl,rfl,bH.new _ _ _,?_,?_⟩⟩ ⟨Fr.push _ _ _,fun b' b8=>?_⟩ ?_
  ·simp only [Wa,VD,Builtin.zeroCells,Array.size_map,Array.size_range,hz];rw [ho.1,hr.1,←V2,←V2]
   congr 1
   omega
  ·simp only [Array.toList_append,Vq];rw [←Vq,VB (by rw [UP,ho.1,hr.1,V2];exact UI _)];exact UY (by rw [UP,ho.1,hr.1,V2];exact UI _)
  ·simp at b8;exact .inr (by omega)
  ·intro b' b8;simp at b8;subst b8;simp
theorem eU {T T' T0 k bs:Nat}{z:Value}{H:ag}{a a2:Option Addr}{l c l2 c2:Nat}{xs ys:List Value}{F:aR}{Q:Value->ag->Prop} (hs:bj P T=some (k,bs,some z)) (hz:z.cells.size=k) (hT:pY P T'=true)
  (ho:cZ k H a l c xs F) (hr:Rd k H a2 l2 ys) (uD:∀ v∈ys,ge v=true) (hl:l+l2<=274877906944) (Lh:bs<=128) (Jj:bs≠0)
  (h:∀ a' c' F' H',cZ k H' a' (l+l2) c' (xs++ys) F'->Up F H F' H'->(∀ b∈F',b<H'.size)->Q (.slice a' (l+l2) c') H') :
  cu P (Builtin.append_ #[T,T'] T0 #[.slice a l c,.slice a2 l2 c2]) Q H :=
 ld hs hz hT ho hr uD (fun c hc=>by
  have Pr:l+l2<=274877906944:=hl
  have:=gS (need:=l+l2) (c:=c) hc;have h3:Builtin.nextslicecap (l+l2) c*bs<=(2*(l+l2)+512)*128:=Nat.mul_le_mul this Lh;exact Ux h3 (Ux (VZ 128 (Nat.add_le_add_right (Nat.mul_le_mul_left 2 Pr) 512)) (by decide))) Jj h
theorem io {T T' T0 k bs:Nat}{z:Value}{H:ag}{a:Option Addr}{l c:Nat}{xs:List Value}{ys:Array Value}{e:TypeId}{F:aR}{Q:Value->ag->Prop} (hs:bj P T=some (k,bs,some z)) (hz:z.cells.size=k) (hT:pY P T'=true)
  (ho:cZ k H a l c xs F) (hy:ys.size=k) (uD:∀ v∈ys.toList,ge v=true) (Pp:∀ c,c<l+1->Builtin.nextslicecap (l+1) c*bs<=281474976710656) (Jj:bs≠0)
  (h:∀ a' c' F' H',cZ k H' a' (l+1) c' (xs++ys.toList) F'->Up F H F' H'->(∀ b∈F',b<H'.size)->Q (.slice a' (l+1) c') H') :
  cu P (Builtin.append_ #[T,T'] T0 #[.slice a l c,.slice (some ⟨H.size,0,none⟩) 1 1]) Q (H.push (.cells ys e)):=by
 refine ld hs hz hT (ho.fr (Fr.push [] H _) (by simp)) (l2:=1) (ys:=ys.toList) ⟨by simp [hy],by simp,fun p hp i hi=>?_⟩ uD Pp Jj fun a' c' F' H' h1 h2 h3=>h a' c' F' H' h1 ?_ h3
 ·cases hp;rw [aC,UE,(bH.new H ys e).cell];simp
 ·exact ⟨⟨Ux (by simp) h2.1.1,fun b hb hn=>by rw [h2.1.2 b (by simp;omega) hn,(Fr.push F H (.cells ys e)).2 b hb hn]⟩,fun b hb=>(h2.2 b hb).imp id fun JT=>by simp at JT;omega⟩
theorem dl {T T' T0 k bs:Nat}{z:Value}{H:ag}{a:Option Addr}{l c:Nat}{xs:List Value}{ys:Array Value}{e:TypeId}{F:aR}{Q:Value->ag->Prop} (hs:bj P T=some (k,bs,some z)) (hz:z.cells.size=k) (hT:pY P T'=true)
  (ho:cZ k H a l c xs F) (hy:ys.size=k) (uD:∀ v∈ys.toList,ge v=true) (hl:l<274877906944) (Lh:bs<=128) (Jj:bs≠0)
  (h:∀ a' c' F' H',cZ k H' a' (l+1) c' (xs++ys.toList) F'->Up F H F' H'->(∀ b∈F',b<H'.size)->Q (.slice a' (l+1) c') H') :
  cu P (Builtin.append_ #[T,T'] T0 #[.slice a l c,.slice (some ⟨H.size,0,none⟩) 1 1]) Q (H.push (.cells ys e)) :=
 io hs hz hT ho hy uD (fun c hc=>by
  have Pr:l+1<=274877906944:=hl
  have:=gS (need:=l+1) (c:=c) hc;have h3:Builtin.nextslicecap (l+1) c*bs<=(2*(l+1)+512)*128:=Nat.mul_le_mul this Lh;exact Ux h3 (Ux (VZ 128 (Nat.add_le_add_right (Nat.mul_le_mul_left 2 Pr) 512)) (by decide))) Jj h
theorem yi {T T0 bs:Nat}{z:Value}{H:ag}{b o n c:Nat}{cs:Array Value}{t:TypeId}{Q:Value->ag->Prop} (hs:bj P T=some (1,bs,some z)) (hz:z.cells=#[z]) (OQ:ge z=true)
  (hb:H[b]?=some (.cells cs t (0,0))) (ho:o+n<=cs.size)
  (h:∀ H',H'[b]?=some (.cells (fM cs o (List.replicate n z)) t (0,0))->H'.size=H.size->(∀ b',b'≠b->H'[b']?=H[b']?)->Q (.tuple #[]) H') :
  cu P (Builtin.clear_ #[T] T0 #[.slice (some ⟨b,o,none⟩) n c]) Q H:=by
 obtain ⟨e,i,hu,hi,hk,Lh,LJ⟩:=fS hs;cases n with
 | zero =>
  refine ay (bn hu ?_);refine h H ?_ rfl fun _ _=>rfl;rw [hb];simp [fM]
 | succ n =>
  refine ay (bn hu ?_);refine ay (eb hi LJ ?_);refine ay ?_;have Ps:(Builtin.zeroCells z.cells (n+1)).toList=List.replicate (n+1) z:=by
   rw [hz,Builtin.zeroCells];apply VM
   ·simp
   ·intro j h1 h2;simp [Nat.mod_one]
  rw [Ps];exact eP _ o 0 cs (fun v hv=>by rw [List.eq_of_mem_replicate hv];exact OQ) hb (by simp;omega) fun H' g1 g2 g3=>h H' (by simpa using g1) g2 g3
theorem zD {T T' T0 bs:Nat}{z:Option Value}{H:ag}{b o l c l2 c2:Nat}{a2:Option Addr}{ys:List Value}{cs:Array Value}{t:TypeId}{Q:Value->ag->Prop} (hs:bj P T=some (1,bs,z))
  (hb:H[b]?=some (.cells cs t (0,0))) (ho:o+l<=cs.size) (hr:Rd 1 H a2 l2 ys) (uD:∀ v∈ys,ge v=true) (pp:l2<=l)
  (h:∀ H',H'[b]?=some (.cells (fM cs o ys) t (0,0))->H'.size=H.size->(∀ b',b'≠b->H'[b']?=H[b']?)->Q (.int .i64 l2) H') :
  cu P (Builtin.copy_ #[T,T'] T0 #[.slice (some ⟨b,o,none⟩) l c,.slice a2 l2 c2]) Q H:=by
 obtain ⟨e,i,hu,hi,hk,Lh,LJ⟩:=fS hs;refine ay (bn hu ?_);refine ay (show cu P (Builtin.lenOf (.slice a2 l2 c2)) _ H from ?_);refine dX ?_;have hm:Nat.min l2 l=l2:=Nat.min_eq_left pp;dsimp only;rw [hm];refine ay (jn hi ?_);rw [hk];refine ay (show cu P (Builtin.firstCells 1 l2 (.slice a2 l2 c2)) _ H from dm hr (UI _) ?_);have Nn:ys.take (l2*1)=ys:=UY (by rw [hr.1];exact UI _);rw [Nn];refine ay ?_;exact eP ys o 0 cs uD hb (by rw [hr.1];omega) fun H' g1 g2 g3=>h H' (by simpa using g1) g2 g3
end
theorem bh {α:Type}{x:α}{P:α->Prop}:(∃ q,some x=some q∧P q)↔P x :=
 ⟨fun ⟨_,e,h⟩=>by cases e;exact h,fun h=>⟨x,rfl,h⟩⟩
theorem aW {x:Option Addr}{y z:Nat}{P:Option Addr->Nat->Nat->Prop}:(∃(a:Option Addr) (l c:Nat),some (Value.slice x y z)=some (.slice a l c)∧P a l c)↔P x y z :=
 ⟨fun ⟨a,l,c,e,h⟩=>by cases e;exact h,fun h=>⟨x,y,z,rfl,h⟩⟩
theorem bC {κ:IntKind}{x:Int}{P:Int->Prop}:(∃ n:Int,some (Value.int κ x)=some (.int κ n)∧P n)↔P x :=
 ⟨fun ⟨n,e,h⟩=>by cases e;exact h,fun h=>⟨x,rfl,h⟩⟩
theorem bE {x:Option Addr}{P:Option Addr->Prop}:(∃ a:Option Addr,some (Value.pointer x)=some (.pointer a)∧P a)↔P x :=
 ⟨fun ⟨n,e,h⟩=>by cases e;exact h,fun h=>⟨x,rfl,h⟩⟩
theorem bi {x:Bool}{P:Bool->Prop}:(∃ a:Bool,some (Value.bool x)=some (.bool a)∧P a)↔P x :=
 ⟨fun ⟨n,e,h⟩=>by cases e;exact h,fun h=>⟨x,rfl,h⟩⟩
theorem bF {x:ByteArray}{P:ByteArray->Prop}:(∃ a:ByteArray,some (Value.string x)=some (.string a)∧P a)↔P x :=
 ⟨fun ⟨n,e,h⟩=>by cases e;exact h,fun h=>⟨x,rfl,h⟩⟩
theorem bz {x:Option Nat}{P:Option Nat->Prop}:(∃ a:Option Nat,some (Value.map x)=some (.map a)∧P a)↔P x :=
 ⟨fun ⟨n,e,h⟩=>by cases e;exact h,fun h=>⟨x,rfl,h⟩⟩
theorem aX {x:Option Addr}{y z:Nat}{P:Option Addr->Nat->Nat->Prop}:(∃(a:Option Addr) (l c:Nat),Value.slice x y z=.slice a l c∧P a l c)↔P x y z :=
 ⟨fun ⟨a,l,c,e,h⟩=>by cases e;exact h,fun h=>⟨x,y,z,rfl,h⟩⟩
theorem bB {κ:IntKind}{x:Int}{P:Int->Prop}:(∃ n:Int,Value.int κ x=.int κ n∧P n)↔P x :=
 ⟨fun ⟨n,e,h⟩=>by cases e;exact h,fun h=>⟨x,rfl,h⟩⟩
theorem bA {x:Option Addr}{P:Option Addr->Prop}:(∃ a:Option Addr,Value.pointer x=.pointer a∧P a)↔P x :=
 ⟨fun ⟨n,e,h⟩=>by cases e;exact h,fun h=>⟨x,rfl,h⟩⟩
theorem bg {x:Bool}{P:Bool->Prop}:(∃ a:Bool,Value.bool x=.bool a∧P a)↔P x :=
 ⟨fun ⟨n,e,h⟩=>by cases e;exact h,fun h=>⟨x,rfl,h⟩⟩
theorem bD {x:ByteArray}{P:ByteArray->Prop}:(∃ a:ByteArray,Value.string x=.string a∧P a)↔P x :=
 ⟨fun ⟨n,e,h⟩=>by cases e;exact h,fun h=>⟨x,rfl,h⟩⟩
theorem aM {H:ag}{c:Array Value}{e:TypeId}{fr:Nat × Nat}{i:Nat}{v:Value}:bc (H.push (.cells c e fr)) ⟨H.size,i,none⟩ v=H.push (.cells (c.setIfInBounds i v) e fr):=by
 unfold bc;apply W4
 ·simp
 ·intro j h1 h2;simp only [Array.size_modify,UL] at h1;rw [Array.getElem_modify];split
  ·rename_i h;subst h;simp
  ·rename_i h;have h3:j≠H.size:=fun e=>h e.symm;rw [Array.getElem_push_lt (by omega),Array.getElem_push_lt (by omega)]
theorem aI {H:ag}{c:Array Value}{e:TypeId}{fr:Nat × Nat}{i:Nat}:aq (H.push (.cells c e fr)) ⟨H.size,i,none⟩=c[i]?:=by simp [aq]
theorem aU {H:ag}{c:Array Value}{e:TypeId}{i:Nat}:Wr (H.push (.cells c e)) ⟨H.size,i,none⟩↔i<c.size:=by
 constructor
 ·rintro ⟨⟨v,hv⟩,_⟩;rw [aI] at hv;exact (UN.1 hv).1
 ·intro h;exact (bH.new H c e).wr h
theorem iO {H:ag}{o:Obj}{a:Addr} (h:a.block<H.size):aq (H.push o) a=aq H a:=by
 unfold aq;rw [VS,Uq (by omega)]
theorem Fr.step {F:aR}{H H1:ag}{b o:Nat}{v:Value} (h:Fr F H H1) (hb:b∈F):Fr F H (bc H1 ⟨b,o,none⟩ v):=h.trans (Fr.set hb)
theorem Fr.more {F:aR}{H H1:ag}{o:Obj} (h:Fr F H H1):Fr F H (H1.push o):=h.trans (Fr.push F H1 o)
def de (n:Nat) (f:Int->Int):List Value:=(List.range n).map fun i:Nat=>.int .i64 (f i)
def eM (H:ag) (b n:Nat) (f:Int->Int):Prop:=bH H b (de n f).toArray
theorem rt {n:Nat}{f:Int->Int}{i:Nat} (h:i<n):(de n f)[i]?=some (.int .i64 (f i)):=by simp [de,h]
theorem uR {n:Nat}{f g:Int->Int} (h:∀ i:Int,0<=i->i<n->f i=g i):de n f=de n g:=by
 unfold de;apply Wh;intro i hi;simp only [Wo] at hi;rw [h i (by omega) (by omega)]
theorem eM.congr {H:ag}{b n:Nat}{f g:Int->Int} (h:eM H b n f) (he:∀ i:Int,0<=i->i<n->f i=g i):eM H b n g:=by
 unfold eM;rw [←uR he];exact h
theorem eM.lt {H:ag}{b n:Nat}{f:Int->Int} (h:eM H b n f):b<H.size:=bH.lt h
theorem eM.cell {H:ag}{b n:Nat}{f:Int->Int} (h:eM H b n f){i:Int} (h0:0<=i) (h1:i<n):aq H ⟨b,i.toNat,none⟩=some (.int .i64 (f i)):=by
 rw [bH.cell h]
 have:=rt (f:=f) (n:=n) (i:=i.toNat) (by omega);rw [Vh h0] at this;simpa using this
theorem eM.wr {H:ag}{b n:Nat}{f:Int->Int} (h:eM H b n f){i:Int} (h0:0<=i) (h1:i<n):Wr H ⟨b,i.toNat,none⟩ :=
 bH.wr h (by simp [de];omega)
def upd (f:Int->Int) (i v:Int):Int->Int:=fun j=>if j=i then v else f j
theorem yc {n:Nat}{f:Int->Int}{i v:Int} (h0:0<=i):(de n f).set i.toNat (.int .i64 v)=de n (upd f i v):=by
 apply VM
 ·simp [de]
 ·intro j h1 h2;simp only [de,List.getElem_set,VT,Wm,upd];by_cases h:i.toNat=j
  ·rw [Ur h,Ur (by omega)]
  ·rw [Uq h,Uq (by omega)]
theorem eM.set {H:ag}{b n:Nat}{f:Int->Int} (h:eM H b n f){i:Int} (h0:0<=i) (v:Int):eM (bc H ⟨b,i.toNat,none⟩ (.int .i64 v)) b n (upd f i v):=by
 have:=bH.set h i.toNat (.int .i64 v);unfold eM;rw [←yc h0];simpa using this
theorem eM.fr {F:aR}{H H':ag}{b n:Nat}{f:Int->Int} (h:eM H b n f) (hf:Fr F H H') (hb:b∉F):eM H' b n f:=bH.fr h hf hb
theorem eM.of_eq {H H':ag}{b n:Nat}{f:Int->Int} (h:eM H b n f) (he:H'[b]?=H[b]?):eM H' b n f:=bH.of_eq h he
theorem eM.set_ne {H:ag}{b n:Nat}{f:Int->Int} (h:eM H b n f){a:Addr} (hb:b≠a.block) (v:Value):eM (bc H a v) b n f:=bH.set_ne h hb v
theorem eM.push {H:ag}{b n:Nat}{f:Int->Int} (h:eM H b n f) (o:Obj):eM (H.push o) b n f:=bH.push h o
theorem eM.new (H:ag) (n:Nat) (e:TypeId):eM (H.push (.cells (Array.replicate n (.int .i64 0)) e)) H.size n fun _=>0:=by
 have:Array.replicate n (Value.int .i64 0)=(de n fun _=>0).toArray:=by
  apply W4
  ·simp [de]
  ·intro i h1 h2;simp [de]
 rw [this];exact bH.new _ _ _
theorem eM.own {H:ag}{b n:Nat}{f:Int->Int} (h:eM H b n f):cZ 1 H (some ⟨b,0,none⟩) n n (de n f) [b] :=
 ⟨by simp [de],UI _,.inr ⟨b,_,rfl,rfl,h,by simp [de],UY (by simp [de])⟩⟩
theorem xV {n:Nat}{f:Int->Int}:∀ v∈de n f,ge v=true:=by
 intro v hv;simp only [de,UM] at hv;obtain ⟨i,_,rfl⟩:=hv;rfl
theorem eM.rd {H:ag}{b n:Nat}{f:Int->Int} (h:eM H b n f){lo l:Nat} (hl:lo+l<=n):Rd 1 H (some ⟨b,lo,none⟩) l (de l fun i=>f (lo+i)):=by
 refine ⟨by simp [de],by simp,fun p hp i hi=>?_⟩;cases hp
 have:=h.cell (i:=((lo+i:Nat):Int)) (by omega) (by omega);rw [aC];rw [Uy] at this;rw [this,rt (by omega)]
 push_cast
 rfl
theorem nN {n o m:Nat}{f g:Int->Int} (h:o+m<=n):fM (de n f).toArray o (de m g)=(de n fun i=>if (o:Int)<=i∧i<o+m then g (i-o) else f i).toArray:=by
 unfold fM
 congr 1
 apply VM
 ·simp [de];omega
 ·intro j h1 h2;simp only [de,UZ,Ws] at h2;simp only [de,List.getElem_append,VT,Wm,Wt,List.getElem_drop,UP,U4,UZ,Ws];by_cases ha:j<o
  ·have h3:j<min o n:=by omega
   rw [dif_pos (by omega),dif_pos h3,Uq (by omega)]
  ·by_cases hb:j<o+m
   ·rw [dif_pos (by omega),dif_neg (by omega),Ur (by omega)]
    congr 2
    omega
   ·rw [dif_neg (by omega),Uq (by omega)]
    congr 2
    omega
section
variable {P:Program}
theorem pM {T T0 bs:Nat}{H:ag}{b n:Nat}{f:Int->Int}{lo l c:Nat}{Q:Value->ag->Prop} (hs:bj P T=some (1,bs,some (.int .i64 0))) (hm:eM H b n f) (hl:lo+l<=n)
  (h:∀ H',eM H' b n (fun i=>if (lo:Int)<=i∧i<lo+l then 0 else f i)->H'.size=H.size->(∀ b',b'≠b->H'[b']?=H[b']?)->Q (.tuple #[]) H') :
  cu P (Builtin.clear_ #[T] T0 #[.slice (some ⟨b,lo,none⟩) l c]) Q H:=by
 obtain ⟨t,hb⟩:=hm;have hr:List.replicate l (Value.int .i64 0)=de l fun _=>0:=by
  apply VM
  ·simp [de]
  ·intro i h1 h2;simp [de]
 refine yi hs rfl rfl hb (by simpa [de] using hl) fun H' h1 h2 h3=>h H' ?_ h2 h3;rw [hr,nN hl] at h1;exact ⟨t,h1⟩
theorem oN {b cap:Nat}{lo:Int} (h:lo.toNat<cap):jS (some ⟨b,0,none⟩) cap lo 1=some ⟨b,lo.toNat,none⟩:=by
 unfold jS;rw [Uq (by omega)];simp
theorem ml {T T0 bs:Nat}{H:ag}{b n:Nat}{f:Int->Int}{lo:Int}{l c:Nat}{Q:Value->ag->Prop} (hs:bj P T=some (1,bs,some (.int .i64 0))) (hm:eM H b n f) (h0:0<=lo) (hl:lo.toNat+l<=n)
  (h:∀ H',eM H' b n (fun i=>if lo<=i∧i<lo+l then 0 else f i)->H'.size=H.size->(∀ b',b'≠b->H'[b']?=H[b']?)->Q (.tuple #[]) H') :
  cu P (Builtin.clear_ #[T] T0 #[.slice (jS (some ⟨b,0,none⟩) n lo 1) l c]) Q H:=by
 by_cases hn:n=lo.toNat
 ·have JV:l=0:=by omega
  subst JV;unfold jS;rw [Ur hn];refine pM hs hm (lo:=0) (by omega) fun H' h1 h2 h3=>h H' (h1.congr fun i _ _=>?_) h2 h3;rw [Uq (by omega),Uq (by omega)]
 ·rw [oN (by omega)];refine pM hs hm hl fun H' h1 h2 h3=>h H' (h1.congr fun i _ _=>?_) h2 h3;rw [Vh h0]
theorem yL {T T' T0 bs:Nat}{z:Option Value}{H:ag}{b b2 n n2:Nat}{f g:Int->Int}{lo l c lo2 l2 c2:Nat}{Q:Value->ag->Prop} (hs:bj P T=some (1,bs,z)) (hm:eM H b n f) (Mj:eM H b2 n2 g) (hl:lo+l<=n) (JC:lo2+l2<=n2) (pp:l2<=l)
  (h:∀ H',eM H' b n (fun i=>if (lo:Int)<=i∧i<lo+l2 then g (i-lo+lo2) else f i)->H'.size=H.size->(∀ b',b'≠b->H'[b']?=H[b']?)->Q (.int .i64 l2) H') :
  cu P (Builtin.copy_ #[T,T'] T0 #[.slice (some ⟨b,lo,none⟩) l c,.slice (some ⟨b2,lo2,none⟩) l2 c2]) Q H:=by
 obtain ⟨t,hb⟩:=hm;refine zD hs hb (by simpa [de] using hl) (Mj.rd JC) xV pp fun H' h1 h2 h3=>h H' ?_ h2 h3;rw [nN (by omega)] at h1;refine eM.congr ⟨t,h1⟩ fun i _ _=>?_;split
 ·congr 1;omega
 ·rfl
theorem uP {T T' T0 bs:Nat}{z:Option Value}{H:ag}{b n:Nat}{f:Int->Int}{lo lo2:Int}{l c l2 c2:Nat}{Q:Value->ag->Prop} (hs:bj P T=some (1,bs,z)) (hm:eM H b n f) (h0:0<=lo) (h1:lo<n) (hl:lo.toNat+l<=n) (h2:0<=lo2) (h3:lo2<n) (JC:lo2.toNat+l2<=n) (pp:l2<=l)
  (h:∀ H',eM H' b n (fun i=>if lo<=i∧i<lo+l2 then f (i-lo+lo2) else f i)->H'.size=H.size->(∀ b',b'≠b->H'[b']?=H[b']?)->Q (.int .i64 l2) H') :
  cu P (Builtin.copy_ #[T,T'] T0 #[.slice (jS (some ⟨b,0,none⟩) n lo 1) l c,.slice (jS (some ⟨b,0,none⟩) n lo2 1) l2 c2]) Q H:=by
 rw [oN (by omega),oN (by omega)];refine yL hs hm hm hl JC pp fun H' g1 g2 g3=>h H' (g1.congr fun i _ _=>?_) g2 g3;rw [Vh h0,Vh h2]
end
theorem Up.fresh {F F':aR}{H H2 H3:ag} (hf:Fr [] H H2) (hu:Up F H2 F' H3) (hF:∀ b∈F,H.size<=b):Fr [] H H3∧∀ b∈F',H.size<=b:=by
 refine ⟨⟨Ux hf.1 hu.1.1,fun b hb _=>?_⟩,fun b hb=>?_⟩
 ·rw [hu.1.2 b (UJ hb hf.1) (fun hm=>absurd (hF b hm) (by omega)),hf.2 b hb (by simp)]
 ·rcases hu.2 b hb with h | h
  ·exact hF b h
  ·exact Ux hf.1 h
def av (l:List Int):List Value:=l.map (.int .i64)
theorem il {l:List Int}:∀ v∈av l,ge v=true:=by
 intro v hv;simp only [av,UM] at hv;obtain ⟨i,_,rfl⟩:=hv;rfl
theorem cT (l m:List Int):av (l++m)=av l++av m:=by simp [av]
theorem Rd.int {H:ag}{a:Option Addr}{l:Nat}{ys:List Int} (h:Rd 1 H a l (av ys)){i:Int} (h0:0<=i) (h1:i<l):∃ p,a=some p∧aq H (p.add i.toNat)=some (.int .i64 (ys.getD i.toNat 0))∧i.toNat<ys.length:=by
 have hl:=h.1;simp only [av,UZ] at hl;cases a with
 | none=>have:=h.2.1 rfl;omega
 | some p =>
  refine ⟨p,rfl,?_,by omega⟩;rw [h.2.2 p rfl i.toNat (by omega)];have hi:i.toNat<ys.length:=by omega
  simp [av,hi]
theorem Rd.len {k:Nat}{H:ag}{a:Option Addr}{l:Nat}{ys:List Value} (h:Rd k H a l ys):ys.length=l*k:=h.1
theorem Rd.fr' {F:aR}{k:Nat}{H H':ag}{a:Option Addr}{l:Nat}{ys:List Value} (h:Rd k H a l ys) (hf:Fr F H H') (hd:∀ p,a=some p->p.block∉F):Rd k H' a l ys:=by
 refine ⟨h.1,h.2.1,fun p hp i hi=>?_⟩;have h1:=h.2.2 p hp i hi;have hb:(p.add i).block=p.block:=by unfold Addr.add;split <;> rfl
 have aa:p.block<H.size:=by
  have h2:i<ys.length:=by rw [h.1];exact hi
  rw [UF h2] at h1;unfold aq at h1;rw [hb] at h1;rcases Vp p.block H.size with h3 | h3
  ·exact h3
  ·simp only [Ve h3] at h1;cases h1
 rw [←h1];unfold aq;rw [hb,hf.2 _ aa (hd p hp)]
theorem cZ.newMem (H:ag) (c:Nat) (e:TypeId):cZ 1 (H.push (.cells (Array.replicate c (.int .i64 0)) e)) (some ⟨H.size,0,none⟩) 0 c [] [H.size] :=
 ⟨by simp,U7 _,.inr ⟨H.size,_,rfl,rfl,bH.new _ _ _,by simp,by simp⟩⟩
def dB (F G:aR):Prop:=∀ b∈F,b∉G
theorem dB.symm {F G:aR} (h:dB F G):dB G F:=fun b hb hf=>h b hf hb
theorem dB.nil_left (F:aR):dB [] F:=fun _ h=>by cases h
theorem dB.nil_right (F:aR):dB F []:=fun _ _ h=>by cases h
theorem dB.mono {F G F' G':aR} (h:dB F G) (h1:∀ b∈F',b∈F) (h2:∀ b∈G',b∈G):dB F' G':=fun b hb hg=>h b (h1 b hb) (h2 b hg)
abbrev IH (α:Type):=ag->List Value->α->aR->Prop
section
variable {α:Type}{n:Nat}{R:IH α}{H H':ag}
end
abbrev D5 (p:Int × Int):Value:=.tuple #[.int .i64 p.1,.int .i64 p.2]
abbrev rI (p:Int × Int × Int):Value:=.tuple #[.int .i64 p.1,.int .i64 p.2.1,.int .i64 p.2.2]
structure RO where
 oop:Int
 fmt:Int
 place:Int
 born:Int
 cls:Int
 slots:List Int
structure RH where
 words:Int
 oops:Int
 mark:Int
 born:Int
 turn:Int
 objs:List RO
def lenOf (n fmt:Int):Int:=if fmt=1 then 2+(n+3) / 4 else 2+n
def RO.len (o:RO):Int:=lenOf (o.slots.length:Int) o.fmt
def aG (l:List RO) (k:Int):Option RO:=l.find? fun o=>decide (o.oop=k)
def bx (l:List RO):Int:=match l.getLast? with
 | none=>0
 | some o=>o.place+o.len
def dY (fmt w:Int):Prop:=if fmt=1 then 0<=w∧w<=255 else cP w
instance (fmt w:Int):Decidable (dY fmt w):=by unfold dY;exact inferInstance
def oO (l:List RO):Nat->Int->Int
 | 0,k=>k
 | n+1,k=>if (aG l k).isSome then oO l n (k+1) else k
def cM (l:List RO):Int:=oO l 65600 1
structure GoodO (words oops:Int) (o:RO):Prop where
 oop1:1<=o.oop
 oop2:o.oop<=oops
 fmt:o.fmt=0∨o.fmt=1
 pl:0<=o.place
 fits:o.place+o.len<=words
 cls:cP o.cls
 many:o.slots.length<=8192
 may:∀ w∈o.slots,dY o.fmt w
def qc (a b:RO):Prop:=a.oop≠b.oop∧a.place+a.len<=b.place
structure WFO (words oops:Int) (l:List RO):Prop where
 good:∀ o∈l,GoodO words oops o
 pw:l.Pairwise qc
structure WFH (r:RH):Prop where
 w0:0<=r.words
 w1:r.words<=1048576
 o0:0<=r.oops
 o1:r.oops<=65536
 m0:0<=r.mark
 m1:r.mark<=1073741824
 objs:WFO r.words r.oops r.objs
theorem kE {n fmt:Int} (h:0<=n):2<=lenOf n fmt:=by unfold lenOf;split <;> omega
theorem pz {n fmt:Int} (h:0<=n):lenOf n fmt<=2+n+3:=by unfold lenOf;split <;> omega
theorem RO.len_pos (o:RO):2<=o.len:=kE (by omega)
theorem aD {l:List RO}{k:Int}{o:RO} (h:aG l k=some o):o∈l∧o.oop=k:=by
 unfold aG at h;exact ⟨List.mem_of_find?_eq_some h,by simpa using List.find?_some h⟩
theorem eO {l:List RO}{k:Int}:aG l k=none↔∀ o∈l,o.oop≠k:=by
 unfold aG;simp [List.find?_eq_none]
theorem wg {l:List RO} (h:l.Pairwise qc){a b:RO} (ha:a∈l) (hb:b∈l):a=b∨qc a b∨qc b a:=by
 induction h with
 | nil=>cases ha
 | @cons x l hx _ ih =>
  rcases Us.1 ha with e1 | Ja
  ·rcases Us.1 hb with e2 | b8
   ·exact .inl (e1.trans e2.symm)
   ·exact .inr (.inl (e1 ▸ hx b b8))
  ·rcases Us.1 hb with e2 | b8
   ·exact .inr (.inr (e2 ▸ hx a Ja))
   ·exact ih Ja b8
theorem cY {words oops:Int}{l:List RO} (hw:WFO words oops l){o:RO} (h:o∈l):aG l o.oop=some o:=by
 cases hf:aG l o.oop with
 | none=>exact absurd rfl (eO.1 hf o h)
 | some o' =>
  obtain ⟨h1,h2⟩:=aD hf;rcases wg hw.pw h1 h with rfl | h3 | h3
  ·rfl
  ·exact absurd h2 h3.1
  ·exact absurd h2.symm h3.1
theorem eZ {l:List RO}{x:RO}{k:Int}:aG (l++[x]) k=match aG l k with
  | some o=>some o
  | none=>if x.oop=k then some x else none:=by
 unfold aG;rw [List.find?_append];cases List.find? (fun o=>decide (o.oop=k)) l with
 | some o=>rfl
 | none =>
  simp only [Option.none_or,V8,List.find?_nil];by_cases h:x.oop=k <;> simp [h]
theorem apart {words oops:Int}{l:List RO} (hw:WFO words oops l){a b:RO} (ha:a∈l) (hb:b∈l) (hn:a.oop≠b.oop):a.place+a.len<=b.place∨b.place+b.len<=a.place:=by
 rcases wg hw.pw ha hb with rfl | h | h
 ·exact absurd rfl hn
 ·exact .inl h.2
 ·exact .inr h.2
theorem dD (l:List RO) (x:RO):bx (l++[x])=x.place+x.len:=by simp [bx]
theorem lF {words oops:Int}{l:List RO} (hw:WFO words oops l){o:RO} (h:o∈l):o.place+o.len<=bx l:=by
 rcases Vu l with rfl | ⟨m,x,rfl⟩ <;> (try simp only [VF] at *)
 ·cases h
 ·rw [dD];rcases Uz.1 h with h | h
  ·have:=(VH.1 hw.pw).2.2 o h x (by simp)
   have:=this.2
   have:=x.len_pos;omega
  ·simp at h;subst h;exact Vo _
theorem fF {words oops:Int}{l:List RO} (hw:WFO words oops l) (h0:0<=words):0<=bx l∧bx l<=words:=by
 rcases Vu l with rfl | ⟨m,x,rfl⟩ <;> (try simp only [VF] at *)
 ·exact ⟨by simp [bx],by simpa [bx] using h0⟩
 ·rw [dD];have hg:=hw.good x (by simp)
  have:=hg.pl
  have:=hg.fits
  have:=x.len_pos;omega
theorem lV (l:List RO):∀ (n:Nat) (k m:Int),k<=m->m<k+n->aG l m=none->(∀ j,k<=j->j<m->aG l j≠none)->oO l n k=m
 | 0,k,m,h1,h2,_,_=>by omega
 | n+1,k,m,h1,h2,h3,h4=>by
  unfold oO;by_cases h:k=m
  ·subst h;simp [h3]
  ·have h5:aG l k≠none:=h4 k (by omega) (by omega);rw [Ur (by cases hk:aG l k with | none=>exact absurd hk h5 | some _=>rfl)];exact lV l n (k+1) m (by omega) (by omega) h3 fun j hj=>h4 j (by omega)
theorem wd {l:List RO}{m:Int} (h1:1<=m) (h2:m<=65537) (h3:aG l m=none) (h4:∀ j,1<=j->j<m->aG l j≠none):cM l=m :=
 lV l 65600 1 m h1 (by omega) h3 h4
theorem un:∀ (n:Nat) (l:List RO),(∀ k:Int,1<=k->k<=n->∃ o∈l,o.oop=k)->n<=l.length
 | 0,_,_=>U7 _
 | n+1,l,h=>by
  obtain ⟨o,ho,hk⟩:=h (n+1:Nat) (by omega) (by omega);obtain ⟨s,t,rfl⟩:=Wn ho
  have:=un n (s++t) fun k h1 h2=>by
   obtain ⟨o',eF,dn⟩:=h k h1 (by omega);refine ⟨o',?_,dn⟩;have b9:o'≠o:=fun e=>by subst e;omega
   simp only [Uz,Us] at eF ⊢;rcases eF with h | h | h
   ·exact .inl h
   ·exact absurd h b9
   ·exact .inr h
  simp only [UP,US] at this ⊢;omega
theorem jc {l:List RO}:∀ (n:Nat) (k:Int),(∃ m,k<=m∧m<k+n∧aG l m=none)->∃ m,k<=m∧m<k+n∧aG l m=none∧∀ j,k<=j->j<m->aG l j≠none
 | 0,k,⟨m,h1,h2,_⟩=>by omega
 | n+1,k,⟨m,h1,h2,h3⟩=>by
  by_cases h:aG l k=none
  ·exact ⟨k,Vo _,by omega,h,fun j h1 h2=>by omega⟩
  ·have hm:k≠m:=fun e=>h (e ▸ h3);obtain ⟨m',g1,g2,g3,g4⟩:=jc n (k+1) ⟨m,by omega,by omega,h3⟩;refine ⟨m',by omega,by omega,g3,fun j h1 h2=>?_⟩;by_cases hj:j=k
   ·subst hj;exact h
   ·exact g4 j (by omega) h2
theorem fQ {words oops:Int}{l:List RO} (hw:WFO words oops l) (h1:oops<=65536) (h:(l.length:Int)<oops) :
  1<=cM l∧cM l<=oops∧aG l (cM l)=none∧∀ j,1<=j->j<cM l->aG l j≠none:=by
 have Li:∃ m,1<=m∧m<1+(oops.toNat:Int)∧aG l m=none:=by
  refine Uv fun tc=>?_
  have:=un oops.toNat l fun k AT JR=>by
   cases hk:aG l k with
   | none=>exact absurd ⟨k,AT,by omega,hk⟩ tc
   | some o=>exact ⟨o,(aD hk).1,(aD hk).2⟩
  omega
 obtain ⟨m,g1,g2,g3,g4⟩:=jc _ _ Li;have e:=wd g1 (by omega) g3 g4;rw [e];exact ⟨g1,by omega,g3,g4⟩
def dM (r:RH) (cls n fmt:Int):RO:=⟨cM r.objs,fmt,bx r.objs,r.born,cls,List.replicate n.toNat (if fmt=1 then 0 else 4)⟩
def RH.alloc (r:RH) (cls n fmt:Int):(Int × Int) × RH :=
 if ¬ cP cls∨fmt<0∨1<fmt∨n<0 then ((0,1),r)
 else if 8192<n then ((0,22),r)
 else if r.oops<=(r.objs.length:Int)∨r.words<bx r.objs+lenOf n fmt then ((0,23),r)
 else if r.mark=1 then ((0,24),{ r with mark:=0 })
 else ((cM r.objs,0),{ r with mark:=if 0<r.mark then r.mark-1 else r.mark,born:=IntKind.wrap .i64 (r.born+1),objs:=r.objs++[dM r cls n fmt] })
def iq (l:List RO) (k:Int) (f:RO->RO):List RO:=l.map fun o=>if o.oop=k then f o else o
def eC (i w:Int) (o:RO):RO:={ o with slots:=o.slots.set i.toNat w }
def RH.at (r:RH) (k i:Int):Int × Int:=match aG r.objs k with
 | none=>(0,20)
 | some o=>if i<0∨(o.slots.length:Int)<=i then (0,21) else (o.slots.getD i.toNat 0,0)
def RH.put (r:RH) (k i w:Int):Int × RH:=match aG r.objs k with
 | none=>(20,r)
 | some o=>if i<0∨(o.slots.length:Int)<=i then (21,r) else if ¬ dY o.fmt w then (10,r) else (0,{ r with objs:=iq r.objs k (eC i w) })
def RH.clsAt (r:RH) (k:Int):Int × Int:=match aG r.objs k with
 | none=>(0,20)
 | some o=>(o.cls,0)
def RH.size (r:RH) (k:Int):Int × Int × Int:=match aG r.objs k with
 | none=>(0,0,20)
 | some o=>((o.slots.length:Int),o.fmt,0)
def RH.marks (r:RH) (k:Int):Int × RH:=if 0<=k∧k<=1073741824 then (0,{ r with mark:=k }) else (1,r)
def cz:Int->List RO->List RO
 | _,[]=>[]
 | at_,o :: l=>{ o with place:=at_ } :: cz (at_+o.len) l
def RH.keepO (r:RH) (l:List Int):List RO:=cz 0 (r.objs.filter fun o=>decide (o.oop∈l))
def RH.keep (r:RH) (l:List Int):(Int × Int × Int) × RH :=
 if ∃ k∈l,aG r.objs k=none then ((0,0,20),r)
 else (((r.objs.length:Int)-((r.keepO l).length:Int),bx r.objs-bx (r.keepO l),0),{ r with objs:=r.keepO l,turn:=IntKind.wrap .i64 (r.turn+1) })
def RH.upto (r:RH) (n:Nat):List Int:=((List.range n).map fun i:Nat=>(i:Int)).filter fun k=>(aG r.objs k).isSome
def RH.all (r:RH):List Int:=r.upto (r.oops+1).toNat
theorem RH.upto_succ (r:RH) (n:Nat):r.upto (n+1)=r.upto n++if (aG r.objs n).isSome then [(n:Int)] else []:=by
 unfold RH.upto;rw [W6,Vf,WM]
 congr 1
 simp only [U8,VP,WY,List.filter_nil]
theorem RH.upto_len (r:RH) (n:Nat):(r.upto n).length<=n:=by
 unfold RH.upto;exact Ux (VW _ _) (by simp)
theorem RH.mem_all {r:RH} (h:WFH r){k:Int}:k∈r.all↔aG r.objs k≠none:=by
 unfold RH.all RH.upto;simp only [U6,UM,Wo];constructor
 ·rintro ⟨_,h2⟩ h3;rw [h3] at h2;cases h2
 ·intro hk;cases ho:aG r.objs k with
  | none=>exact absurd ho hk
  | some o =>
   have hg:=h.objs.good o (aD ho).1;have h1:=hg.oop1;have h2:=hg.oop2;rw [(aD ho).2] at h1 h2;exact ⟨⟨k.toNat,by omega,by omega⟩,rfl⟩
theorem uB (l:List RO) (k:Int) (f:RO->RO):(iq l k f).length=l.length:=by simp [iq]
theorem dG {l:List RO}{k j:Int}{f:RO->RO} (hf:∀ o,(f o).oop=o.oop):aG (iq l k f) j=(aG l j).map fun o=>if o.oop=k then f o else o:=by
 induction l with
 | nil=>rfl
 | cons o l ih =>
  unfold aG iq at *;simp only [U8,V8];have e:(if o.oop=k then f o else o).oop=o.oop:=by split <;> simp [hf]
  rw [e];by_cases h:o.oop=j
  ·simp [h]
  ·simp only [h,decide_false];exact ih
theorem GA {l:List RO}{g:RO->RO} (h1:∀ o,(g o).oop=o.oop) (h2:∀ o,(g o).place=o.place) (h3:∀ o,(g o).len=o.len) (h:l.Pairwise qc):(l.map g).Pairwise qc:=by
 rw [VE];refine h.imp fun {a b} LK=>?_;unfold qc at *;rw [h1,h1,h2,h2,h3];exact LK
theorem jg (i w:Int) (o:RO):(eC i w o).len=o.len:=by simp [eC,RO.len]
theorem nF {l:List RO}{k:Int}{f:RO->RO} (h2:∀ o,(f o).place=o.place) (h3:∀ o,(f o).len=o.len):bx (iq l k f)=bx l:=by
 unfold bx iq;rw [List.getLast?_map];cases l.getLast? with
 | none=>rfl
 | some o =>
  show (if o.oop=k then f o else o).place+(if o.oop=k then f o else o).len=o.place+o.len;split
  ·rw [h2,h3]
  ·rfl
theorem kC {r:RH} (h:WFH r) (cls n fmt:Int):WFH (r.alloc cls n fmt).2:=by
 unfold RH.alloc;split
 ·exact h
 split
 ·exact h
 split
 ·exact h
 split
 ·exact { h with m0:=by simp,m1:=by simp }
 ·rename_i h1 h2 h3 h4;have hl:=fQ h.objs h.o1 (by omega);have ai:(dM r cls n fmt).len=lenOf n fmt:=by simp only [dM,RO.len,VG];congr 1;omega
  have he:=fF h.objs h.w0;have Rs:=h.m0;have w6:=h.m1;refine { w0:=h.w0,w1:=h.w1,o0:=h.o0,o1:=h.o1,m0:=?_,m1:=?_,objs:=⟨?_,?_⟩ }
  ·show 0<=if 0<r.mark then r.mark-1 else r.mark;split <;> omega
  ·show (if 0<r.mark then r.mark-1 else r.mark)<=1073741824;split <;> omega
  ·intro o ho;rcases Uz.1 ho with ho | ho
   ·exact h.objs.good o ho
   ·simp at ho;subst ho;refine { oop1:=hl.1,oop2:=hl.2.1,fmt:=?_,pl:=he.1,fits:=?_,cls:=?_,many:=?_,may:=?_ }
    ·show fmt=0∨fmt=1;omega
    ·rw [ai];show bx r.objs+lenOf n fmt<=r.words;omega
    ·exact Uv fun hc=>h1 (.inl hc)
    ·simp only [dM,VG];omega
    ·intro w hw;simp only [dM] at hw ⊢
     have:=List.eq_of_mem_replicate hw;subst this;unfold dY;split
     ·simp
     ·decide
  ·rw [VH];refine ⟨h.objs.pw,by simp,fun a ha b hb=>?_⟩;simp at hb;subst hb;exact ⟨eO.1 hl.2.2.1 a ha,lF h.objs ha⟩
theorem mN {r:RH} (h:WFH r) (k i w:Int):WFH (r.put k i w).2:=by
 unfold RH.put;split
 ·exact h
 split
 ·exact h
 split
 ·exact h
 ·rename_i o ho h1 h2;refine { h with objs:=⟨?_,?_⟩ }
  ·intro o' eF;simp only [iq,UM] at eF;obtain ⟨a,ha,rfl⟩:=eF;have hg:=h.objs.good a ha;split
   ·rename_i hk
    have:a=o:=by have:=cY h.objs ha;rw [hk,ho] at this;exact (Option.some.inj this).symm
    subst this;refine { oop1:=hg.oop1,oop2:=hg.oop2,fmt:=hg.fmt,pl:=hg.pl,fits:=by rw [jg];exact hg.fits,cls:=hg.cls,many:=by simpa [eC] using hg.many,may:=?_ };intro x hx;rcases List.mem_or_eq_of_mem_set hx with hx | rfl
    ·exact hg.may x hx
    ·exact Uv h2
   ·exact hg
  ·refine GA (fun o=>?_) (fun o=>?_) (fun o=>?_) h.objs.pw
   ·split <;> rfl
   ·split <;> rfl
   ·split
    ·exact jg i w o
    ·rfl
theorem Ai {r:RH} (h:WFH r) (k:Int):WFH (r.marks k).2:=by
 unfold RH.marks;split
 ·exact { h with m0:=by simp;omega,m1:=by simp;omega }
 ·exact h
theorem mP (at_:Int) (l:List RO):(cz at_ l).length=l.length:=by
 induction l generalizing at_ with
 | nil=>rfl
 | cons o l ih=>simp [cz,ih]
theorem gn {at_:Int}{l:List RO}{x:RO} (h:x∈cz at_ l):∃ o∈l,x={ o with place:=x.place }∧at_<=x.place:=by
 induction l generalizing at_ with
 | nil=>cases h
 | cons o l ih =>
  rcases Us.1 h with rfl | h
  ·exact ⟨o,by simp,rfl,Vo _⟩
  ·obtain ⟨o',h1,h2,h3⟩:=ih h;exact ⟨o',by simp [h1],h2,by have:=o.len_pos;omega⟩
theorem pQ {words oops:Int}:∀ (l:List RO) (at_:Int),WFO words oops l->0<=at_->(∀ o∈l,at_<=o.place)->WFO words oops (cz at_ l)∧(∀ x∈cz at_ l,at_<=x.place)
 | [],_,h,_,_=>⟨h,by simp [cz]⟩
 | o :: l,at_,h,h0,pp=>by
  have hp:=Vg.1 h.pw;have hg:=h.good o (by simp);have ho:=pp o (by simp);have ai:({ o with place:=at_ }:RO).len=o.len:=rfl;have ly:=o.len_pos;have ih:=pQ l (at_+o.len) ⟨fun x hx=>h.good x (by simp [hx]),hp.2⟩ (by omega) fun x hx=>by have:=(hp.1 x hx).2;omega
  refine ⟨⟨?_,?_⟩,?_⟩
  ·intro x hx;rcases Us.1 hx with rfl | hx
   ·have hf:=hg.fits;exact { oop1:=hg.oop1,oop2:=hg.oop2,fmt:=hg.fmt,pl:=h0,fits:=by rw [ai];show at_+o.len<=words;omega,cls:=hg.cls,many:=hg.many,may:=hg.may }
   ·exact ih.1.good x hx
  ·refine Vg.2 ⟨fun x hx=>⟨?_,?_⟩,ih.1.pw⟩
   ·obtain ⟨o',h1,h2,_⟩:=gn hx;rw [h2];exact (hp.1 o' h1).1
   ·rw [ai];exact ih.2 x hx
  ·intro x hx;rcases Us.1 hx with rfl | hx
   ·exact Vo _
   ·have:=ih.2 x hx;omega
theorem WFO.filter {words oops:Int}{l:List RO} (h:WFO words oops l) (p:RO->Bool):WFO words oops (l.filter p) :=
 ⟨fun o ho=>h.good o (U6.1 ho).1,h.pw.filter p⟩
theorem tE {r:RH} (h:WFH r) (l:List Int):WFO r.words r.oops (r.keepO l) :=
 (pQ _ 0 (h.objs.filter _) (Vo _) fun o ho=>(h.objs.good o (U6.1 ho).1).pl).1
theorem fY {r:RH} (h:WFH r) (l:List Int):WFH (r.keep l).2:=by
 unfold RH.keep;split
 ·exact h
 ·exact { h with objs:=tE h l }
end Kw
namespace Go.Proofs.YtgjfejoohojokaaGreatDoor
open Kw
structure SimH (W T B:Int->Int) (low:Int) (r:RH):Prop where
 tab:∀ k,0<=k->k<=r.oops->T k=match aG r.objs k with
  | some o=>o.place
  | none=>-1
 bor:∀ o∈r.objs,B o.oop=o.born
 cls:∀ o∈r.objs,W o.place=o.cls
 shp:∀ o∈r.objs,W (o.place+1)=2*(o.slots.length:Int)+o.fmt
 wrd:∀ o∈r.objs,o.fmt=0->∀ i:Nat,i<o.slots.length->W (o.place+2+i)=o.slots.getD i 0
 byt:∀ o∈r.objs,o.fmt=1->∀ i:Nat,i<o.slots.length->W (o.place+2+(i / 4:Nat)) / ((2 ^ (i % 4*8):Nat):Int) % 256=o.slots.getD i 0
 byr:∀ o∈r.objs,o.fmt=1->∀ j,o.place+2<=j->j<o.place+o.len->0<=W j∧W j<4294967296
 low1:1<=low
 low2:low<=r.oops+1
 low3:∀ k,1<=k->k<low->aG r.objs k≠none
structure PHs (H:ag) (hb wb tb bb:Nat) (W T B:Int->Int) (low:Int) (r:RH):Prop where
 hd:bH H hb #[.slice (some ⟨wb,0,none⟩) r.words.toNat r.words.toNat,.slice (some ⟨tb,0,none⟩) (r.oops+1).toNat (r.oops+1).toNat,.slice (some ⟨bb,0,none⟩) (r.oops+1).toNat (r.oops+1).toNat,ac (r.objs.length:Int),ac (bx r.objs),ac low,ac r.mark,ac r.born,ac r.turn]
 mw:eM H wb r.words.toNat W
 mt:eM H tb (r.oops+1).toNat T
 mb:eM H bb (r.oops+1).toNat B
 d:[hb,wb,tb,bb,aS].Nodup
 kinds:dT H
 wf:WFH r
 sim:SimH W T B low r
section
variable {H:ag}{hb wb tb bb:Nat}{W T B:Int->Int}{low:Int}{r:RH}
theorem PHs.c0 (h:PHs H hb wb tb bb W T B low r):aq H ⟨hb,0,none⟩=some (.slice (some ⟨wb,0,none⟩) r.words.toNat r.words.toNat):=h.hd.cell 0
theorem PHs.c1 (h:PHs H hb wb tb bb W T B low r):aq H ⟨hb,1,none⟩=some (.slice (some ⟨tb,0,none⟩) (r.oops+1).toNat (r.oops+1).toNat):=h.hd.cell 1
theorem PHs.c2 (h:PHs H hb wb tb bb W T B low r):aq H ⟨hb,2,none⟩=some (.slice (some ⟨bb,0,none⟩) (r.oops+1).toNat (r.oops+1).toNat):=h.hd.cell 2
theorem PHs.c3 (h:PHs H hb wb tb bb W T B low r):aq H ⟨hb,3,none⟩=some (ac (r.objs.length:Int)):=h.hd.cell 3
theorem PHs.c4 (h:PHs H hb wb tb bb W T B low r):aq H ⟨hb,4,none⟩=some (ac (bx r.objs)):=h.hd.cell 4
theorem PHs.c5 (h:PHs H hb wb tb bb W T B low r):aq H ⟨hb,5,none⟩=some (ac low):=h.hd.cell 5
theorem PHs.c6 (h:PHs H hb wb tb bb W T B low r):aq H ⟨hb,6,none⟩=some (ac r.mark):=h.hd.cell 6
theorem PHs.c7 (h:PHs H hb wb tb bb W T B low r):aq H ⟨hb,7,none⟩=some (ac r.born):=h.hd.cell 7
theorem PHs.c8 (h:PHs H hb wb tb bb W T B low r):aq H ⟨hb,8,none⟩=some (ac r.turn):=h.hd.cell 8
theorem PHs.word (h:PHs H hb wb tb bb W T B low r){i:Int} (h0:0<=i) (h1:i<r.words):aq H ⟨wb,i.toNat,none⟩=some (ac (W i)):=h.mw.cell h0 (by omega)
theorem PHs.tabc (h:PHs H hb wb tb bb W T B low r){i:Int} (h0:0<=i) (h1:i<=r.oops):aq H ⟨tb,i.toNat,none⟩=some (ac (T i)):=h.mt.cell h0 (by omega)
end
def dF (H:ag) (hb:Nat) (F:aR) (r:RH):Prop:=∃ wb tb bb W T B low,F=[hb,wb,tb,bb]∧PHs H hb wb tb bb W T B low r
theorem PHs.rep {H:ag}{hb wb tb bb:Nat}{W T B:Int->Int}{low:Int}{r:RH} (h:PHs H hb wb tb bb W T B low r):dF H hb [hb,wb,tb,bb] r:=⟨_,_,_,_,_,_,_,rfl,h⟩
theorem dF.wf {H:ag}{hb:Nat}{F:aR}{r:RH} (h:dF H hb F r):WFH r:=by obtain ⟨_,_,_,_,_,_,_,_,h⟩:=h;exact h.wf
theorem dF.kinds {H:ag}{hb:Nat}{F:aR}{r:RH} (h:dF H hb F r):dT H:=by obtain ⟨_,_,_,_,_,_,_,_,h⟩:=h;exact h.kinds
theorem dF.lt {H:ag}{hb:Nat}{F:aR}{r:RH} (h:dF H hb F r):∀ b∈F,b<H.size:=by
 obtain ⟨wb,tb,bb,_,_,_,_,rfl,h⟩:=h;intro b hb;simp at hb;rcases hb with rfl | rfl | rfl | rfl
 ·exact h.hd.lt
 ·exact h.mw.lt
 ·exact h.mt.lt
 ·exact h.mb.lt
theorem dF.gk {H:ag}{hb:Nat}{F:aR}{r:RH} (h:dF H hb F r):aS∉F:=by
 obtain ⟨wb,tb,bb,_,_,_,_,rfl,h⟩:=h
 have:=h.d;simp only [Vl,Us,UO,U5,Vt] at this ⊢;obtain ⟨⟨_,_,_,h1⟩,⟨_,_,h2⟩,⟨_,h3⟩,h4,_⟩:=this;exact ⟨fun e=>h1 e.symm,fun e=>h2 e.symm,fun e=>h3 e.symm,fun e=>h4 e.symm⟩
theorem dF.fr {H H':ag}{hb:Nat}{F G:aR}{r:RH} (h:dF H hb F r) (hf:Fr G H H') (hd:dB F G) (hg:aS∉G):dF H' hb F r:=by
 obtain ⟨wb,tb,bb,W,T,B,low,rfl,h⟩:=h;exact ⟨wb,tb,bb,W,T,B,low,rfl,{ hd:=h.hd.fr hf (hd _ (by simp)),mw:=h.mw.fr hf (hd _ (by simp)),mt:=h.mt.fr hf (hd _ (by simp)),mb:=h.mb.fr hf (hd _ (by simp)),d:=h.d,kinds:=h.kinds.fr hf hg,wf:=h.wf,sim:=h.sim }⟩
section
variable {H:ag}{hb wb tb bb:Nat}{W T B:Int->Int}{low:Int}{r:RH}{Q:QT}
theorem o9 {n m:Int} (h:Q (.bool (decide (0<=n∧n<=m))) H):ae PP 110 #[ac n,ac m] Q H:=by
 apply Bv;dsimp only [bk,ao];simp only [ah];split
 ·rename_i h1;have h1:0<=n:=h1;simpa [h1] using h
 ·rename_i h1;have h1:¬ 0<=n:=h1;simpa [h1] using h
theorem pC (hR:PHs H hb wb tb bb W T B low r) (h:Q (.bool false) H):ae PP 109 #[Kj hb] Q H:=by
 apply Bl;dsimp only [bk,ao,aH,aN,fi];simp only [ah,UK,Ut,Uw,UA,bh,aW,bC,bE,bi,bF,bz,aX,bB,bA,bg,bD,UT,UU,UV,aC,UE,UC,aM,aI,aU,UB,UG,bI,bK,hR.c1];exact h
theorem uo {w:Int} (hk:dT H) (h:Q (.bool (decide (cP w))) H):ae PP 140 #[ac w] Q H:=by
 apply Eu;dsimp only [bk,aT,ac];refine jF hk ⟨_,rfl,?_⟩
 have:(aA w != 0)=decide (cP w):=by rw [bK];rfl
 rw [this];exact h
theorem lZ {n f:Int} (h0:0<=n) (h1:n<=1000000000) (h:Q (ac (lenOf n f)) H):ae PP 141 #[ac n,ac f] Q H:=by
 apply EB;dsimp only [ao,ac,bd];simp only [ah,UK,Ut,Uw,UA,bh,aW,bC,bE,bi,bF,bz,aX,bB,bA,bg,bD,UT,UU,UV,aC,UE,UC,aM,aI,aU,UB,UG,bI,bK];unfold lenOf at h;split
 ·rename_i hf;rw [Ur hf] at h;rw [az (n:=n+4) (by omega) (by omega),az (n:=n+4-1) (by omega) (by omega),xj,Ur (by omega),az (n:=(n+4-1) / 4) (by omega) (by omega),az (by omega) (by omega)];rw [show n+4-1=n+3 by omega];exact h
 ·rename_i hf;rw [Uq hf] at h;rw [az (by omega) (by omega)];exact h
theorem PHs.in_ (hR:PHs H hb wb tb bb W T B low r){o:RO} (ho:o∈r.objs):0<=o.place∧o.place+o.len<=r.words∧2<=o.len∧r.words<=1048576∧(o.fmt=0∨o.fmt=1)∧(o.slots.length:Int)<=8192:=by
 have hg:=hR.wf.objs.good o ho;exact ⟨hg.pl,hg.fits,o.len_pos,hR.wf.w1,hg.fmt,by have:=hg.many;omega⟩
theorem xu (hR:PHs H hb wb tb bb W T B low r){o:RO} (ho:o∈r.objs) (h:Q (.tuple #[ac (o.slots.length:Int),ac o.fmt]) H):ae PP 117 #[Kj hb,ac o.place] Q H:=by
 obtain ⟨h1,h2,h3,h4,h5,h6⟩:=hR.in_ ho;apply xI;dsimp only [aF,aB,aH,bq,bu,aN,bd];rw [az (n:=o.place+1) (by omega) (by omega)];simp only [ah,UK,Ut,Uw,UA,bh,aW,bC,bE,bi,bF,bz,aX,bB,bA,bg,bD,UT,UU,UV,aC,UE,UC,aM,aI,aU,UB,UG,bI,bK,hR.c0,hR.word (i:=o.place+1) (by omega) (by omega)];refine ⟨by omega,by omega,?_⟩;rw [hR.sim.shp o ho,DT,xA];have e1:(2*(o.slots.length:Int)+o.fmt) / 2=o.slots.length:=by omega
 have e2:(2*(o.slots.length:Int)+o.fmt) % 2=o.fmt:=by omega
 rw [e1,e2];exact h
def qK (r:RH) (k:Int):Value:=match aG r.objs k with
 | none=>.tuple #[ac 0,ac 20]
 | some o=>.tuple #[ac o.place,ac 0]
theorem tm (hR:PHs H hb wb tb bb W T B low r){k:Int} (h:Q (qK r k) H):ae PP 116 #[Kj hb,ac k] Q H:=by
 apply CG;dsimp only [aF,bJ,ao,bv,aB,aH,bq,bu,aN,am];refine pC hR ⟨_,rfl,?_⟩;have OR:=hR.wf.o0;have none_:(k<1∨r.oops<k)->aG r.objs k=none:=fun hk=>eO.2 fun o ho=>by
  have hg:=hR.wf.objs.good o ho;have:=hg.oop1;have:=hg.oop2;omega
 unfold qK at h;simp only [ah,UK,Ut,Uw,UA,bh,aW,bC,bE,bi,bF,bz,aX,bB,bA,bg,bD,UT,UU,UV,aC,UE,UC,aM,aI,aU,UB,UG,bI,bK,hR.c1];split
 ·rename_i hk;rw [none_ (.inl hk)] at h;exact h
 split
 ·rename_i hk;rw [none_ (.inr (by omega))] at h;exact h
 ·rename_i h1 h2;have ht:=hR.sim.tab k (by omega) (by omega);simp only [hR.tabc (i:=k) (by omega) (by omega),ah,UK,Ut,Uw,UA,bh,aW,bC,bE,bi,bF,bz,aX,bB,bA,bg,bD,UT,UU,UV,aC,UE,UC,aM,aI,aU,UB,UG,bI,bK];refine ⟨by omega,by omega,?_⟩;rw [ht];cases ho:aG r.objs k with
  | none=>rw [ho] at h;simpa using h
  | some o =>
   rw [ho] at h
   have:=(hR.in_ (aD ho).1).1;simp only;rw [Uq (by omega)];exact ⟨by omega,by omega,h⟩
def tJ (r:RH) (k i:Int):Value:=match aG r.objs k with
 | none=>.tuple #[ac 0,ac 0,ac 0,ac 20]
 | some o=>if i<0∨(o.slots.length:Int)<=i then .tuple #[ac 0,ac 0,ac 0,ac 21]
  else if o.fmt=1 then .tuple #[ac (o.place+2+i / 4),ac (i % 4*8),ac 1,ac 0]
  else .tuple #[ac (o.place+2+i),ac 0,ac o.fmt,ac 0]
theorem vq (hR:PHs H hb wb tb bb W T B low r){k i:Int} (h:Q (tJ r k i) H):ae PP 118 #[Kj hb,ac k,ac i] Q H:=by
 apply Ee;dsimp only [ao,ak,bv,ac,am,ax,bU,bd];refine tm hR ?_;unfold qK;unfold tJ at h;cases ho:aG r.objs k with
 | none=>rw [ho] at h;exact ⟨_,_,rfl,by simpa using h⟩
 | some o =>
  rw [ho] at h;have hm:=(aD ho).1;obtain ⟨h1,h2,h3,h4,h5,h6⟩:=hR.in_ hm;refine ⟨_,_,rfl,?_⟩;simp only [ah,UK,Ut,Uw,UA,bh,aW,bC,bE,bi,bF,bz,aX,bB,bA,bg,bD,UT,UU,UV,aC,UE,UC,aM,aI,aU,UB,UG,bI,bK,ne_eq,not_true_eq_false,if_false];refine xu hR hm ⟨_,_,rfl,?_⟩;simp only at h;split
  ·rw [Ur (by omega)] at h;exact h
  split
  ·rw [Ur (by omega)] at h;exact h
  ·rename_i g1 g2;rw [Uq (by omega)] at h;split
   ·rename_i hf;rw [Ur hf] at h;rw [xj,Ur (by omega),CJ _ _ (by decide),Ur (by omega),az (n:=o.place+2) (by omega) (by omega),az (n:=i / 4) (by omega) (by omega),az (n:=i % 4*8) (by omega) (by omega),az (by omega) (by omega),hf];exact h
   ·rename_i hf;rw [Uq hf] at h;rw [az (n:=o.place+2) (by omega) (by omega),az (by omega) (by omega)];exact h
theorem sw (hR:PHs H hb wb tb bb W T B low r){o:RO} (ho:o∈r.objs){i:Int} (h0:0<=i) (h1:i<o.slots.length):(o.fmt=1->o.place+2+i / 4<r.words∧o.place+2+i / 4<o.place+o.len)∧(o.fmt≠1->o.place+2+i<r.words∧o.place+2+i<o.place+o.len):=by
 obtain ⟨g1,g2,g3,g4,g5,g6⟩:=hR.in_ ho;have hl:o.len=lenOf o.slots.length o.fmt:=rfl;constructor
 ·intro hf;rw [lenOf,Ur hf] at hl;omega
 ·intro hf;rw [lenOf,Uq hf] at hl;omega
theorem IQ (hR:PHs H hb wb tb bb W T B low r){k i:Int} (h:Q (D5 (r.at k i)) H):ae PP 57 #[Kj hb,ac k,ac i] Q H:=by
 apply GS;dsimp only [aF,ao,iU,bv,aB,aH,bq,ac,bu,aN,am];refine vq hR ?_;unfold tJ;unfold RH.at at h;cases ho:aG r.objs k with
 | none=>rw [ho] at h;exact ⟨_,_,_,_,rfl,by simpa using h⟩
 | some o =>
  rw [ho] at h;have hm:=(aD ho).1;obtain ⟨h1,h2,h3,h4,h5,h6⟩:=hR.in_ hm;simp only at h ⊢;split
  ·rename_i hi;rw [Ur hi] at h;exact ⟨_,_,_,_,rfl,by simpa using h⟩
  ·rename_i hi;rw [Uq hi] at h;have hs:=sw hR hm (i:=i) (by omega) (by omega);split
   ·rename_i hf;have hs:=hs.1 hf;refine ⟨_,_,_,_,rfl,?_⟩;simp only [ah,UK,Ut,Uw,UA,bh,aW,bC,bE,bi,bF,bz,aX,bB,bA,bg,bD,UT,UU,UV,aC,UE,UC,aM,aI,aU,UB,UG,bI,bK,ne_eq,not_true_eq_false,if_false,if_true,hR.c0,hR.word (i:=o.place+2+i / 4) (by omega) (by omega)];refine ⟨by omega,by omega,?_⟩;rw [Uq (by omega)];have e:i % 4*8=((i.toNat % 4*8:Nat):Int):=by omega
    have hb:=hR.sim.byt o hm hf i.toNat (by omega);have e2:((i.toNat / 4:Nat):Int)=i / 4:=by omega
    rw [e2] at hb;rw [e,te _ _ (by omega),Dl,hb];exact h
   ·rename_i hf;have hs:=hs.2 hf;refine ⟨_,_,_,_,rfl,?_⟩;have hE:o.fmt=0:=by omega
    have hw:=hR.sim.wrd o hm hE i.toNat (by omega);rw [Vh (by omega)] at hw;simp only [ah,UK,Ut,Uw,UA,bh,aW,bC,bE,bi,bF,bz,aX,bB,bA,bg,bD,UT,UU,UV,aC,UE,UC,aM,aI,aU,UB,UG,bI,bK,ne_eq,not_true_eq_false,if_false,hf,hR.c0,hR.word (i:=o.place+2+i) (by omega) (by omega)];refine ⟨by omega,by omega,?_⟩;rw [hw];exact h
theorem CC (hR:PHs H hb wb tb bb W T B low r){k:Int} (h:Q (D5 (r.clsAt k)) H):ae PP 54 #[Kj hb,ac k] Q H:=by
 apply Fw;dsimp only [aF,ao,ak,aB,aH,bq,ac,bu,aN,am];refine tm hR ?_;unfold qK;unfold RH.clsAt at h;cases ho:aG r.objs k with
 | none=>rw [ho] at h;exact ⟨_,_,rfl,by simpa using h⟩
 | some o =>
  rw [ho] at h;have hm:=(aD ho).1;obtain ⟨h1,h2,h3,h4,h5,h6⟩:=hR.in_ hm;refine ⟨_,_,rfl,?_⟩;simp only [ah,UK,Ut,Uw,UA,bh,aW,bC,bE,bi,bF,bz,aX,bB,bA,bg,bD,UT,UU,UV,aC,UE,UC,aM,aI,aU,UB,UG,bI,bK,ne_eq,not_true_eq_false,if_false,hR.c0,hR.word (i:=o.place) (by omega) (by omega),hR.sim.cls o hm];exact ⟨by omega,by omega,h⟩
theorem Gi (hR:PHs H hb wb tb bb W T B low r){k:Int} (h:Q (rI (r.size k)) H):ae PP 55 #[Kj hb,ac k] Q H:=by
 apply Gc;dsimp only [ao,ak,ac,am,bU];refine tm hR ?_;unfold qK;unfold RH.size at h;cases ho:aG r.objs k with
 | none=>rw [ho] at h;exact ⟨_,_,rfl,by simpa using h⟩
 | some o =>
  rw [ho] at h;have hm:=(aD ho).1;refine ⟨_,_,rfl,?_⟩;simp only [ah,UK,Ut,Uw,UA,bh,aW,bC,bE,bi,bF,bz,aX,bB,bA,bg,bD,UT,UU,UV,aC,UE,UC,aM,aI,aU,UB,UG,bI,bK,ne_eq,not_true_eq_false,if_false];exact xu hR hm ⟨_,_,rfl,h⟩
theorem EX {w f:Int} (hk:dT H) (h:Q (.bool (decide (dY f w))) H):ae PP 269 #[ac w,ac f] Q H:=by
 apply DX;dsimp only [bk,bJ,ao,ac];have fin:∀ b:Bool,b=decide (dY f w)->Q (.bool b) H:=fun b hb=>hb ▸ h;simp only [ah,UK,Ut,Uw,UA,bh,aW,bC,bE,bi,bF,bz,aX,bB,bA,bg,bD,UT,UU,UV,aC,UE,UC,aM,aI,aU,UB,UG,bI,bK];split
 ·rename_i hf;split
  ·exact fin _ (by simp [dY,hf];omega)
  ·exact fin _ (by simp [dY,hf];omega)
 ·rename_i hf;exact uo hk ⟨_,rfl,fin _ (by simp [dY,hf])⟩
theorem AS (hR:PHs H hb wb tb bb W T B low r) (h:Q (ac r.mark) H):ae PP 60 #[Kj hb] Q H:=by
 apply GX;dsimp only [ao,aB,ac,aN,fi];simp only [ah,UK,Ut,Uw,UA,bh,aW,bC,bE,bi,bF,bz,aX,bB,bA,bg,bD,UT,UU,UV,aC,UE,UC,aM,aI,aU,UB,UG,bI,bK,hR.c6];exact h
end
section
variable {H:ag}{hb wb tb bb:Nat}{W T B:Int->Int}{low:Int}{r:RH}{Q:QT}
theorem GG {F:aR} (hR:dF H hb F r){k:Int} (h:∀ H',dF H' hb F (r.marks k).2->Fr F H H'->Q (ac (r.marks k).1) H'):ae PP 45 #[Kj hb,ac k] Q H:=by
 have Gl:=hR;obtain ⟨wb,tb,bb,W,T,B,low,rfl,hR⟩:=hR;apply GK;dsimp only [bJ,ao,ac,aN,am,bP];refine pC hR ⟨_,rfl,?_⟩;simp only [Ut];refine o9 ⟨_,rfl,?_⟩;have hd:=hR.d;simp only [Vl,Us,UO,U5,Vt] at hd;unfold RH.marks at h;by_cases hk:0<=k∧k<=1073741824
 ·simp only [hk,and_self,if_true] at h;simp only [ah,UK,Ut,Uw,UA,bh,aW,bC,bE,bi,bF,bz,aX,bB,bA,bg,bD,UT,UU,UV,aC,UE,UC,aM,aI,aU,UB,UG,bI,bK,hk];refine ⟨hR.hd.wr (by simp),h _ ⟨wb,tb,bb,W,T,B,low,rfl,?_⟩ (Fr.set (by simp))⟩;exact { hd:=hR.hd.set 6 (ac k),mw:=hR.mw.set_ne (by simp;omega) _,mt:=hR.mt.set_ne (by simp;omega) _,mb:=hR.mb.set_ne (by simp;omega) _,d:=hR.d,kinds:=hR.kinds.fr (Fr.set (F:=[hb]) (by simp)) (by simp;omega),wf:={ hR.wf with m0:=hk.1,m1:=hk.2 },sim:={ hR.sim with } }
 ·simp only [hk,if_false] at h;simp only [ah,UK,Ut,Uw,UA,bh,aW,bC,bE,bi,bF,bz,aX,bB,bA,bg,bD,UT,UU,UV,aC,UE,UC,aM,aI,aU,UB,UG,bI,bK,hk];exact h H Gl (Fr.refl _ _)
theorem He (hw:WFH r) (hs:SimH W T B low r){o:RO}{k i w:Int} (ho:aG r.objs k=some o) (h0:0<=i) (h1:i<o.slots.length) (hf:o.fmt=0) :
  SimH (upd W (o.place+2+i) w) T B low { r with objs:=iq r.objs k (eC i w) }:=by
 have Lw:=aD ho;have ai:o.len=2+(o.slots.length:Int):=by unfold RO.len lenOf;rw [Uq (by omega)]
 have key:∀ o'∈iq r.objs k (eC i w),∃ a∈r.objs,(a.oop=k∧a=o∧o'=eC i w o)∨(a.oop≠k∧o'=a∧(a.place+a.len<=o.place∨o.place+o.len<=a.place)):=by
  intro o' eF;simp only [iq,UM] at eF;obtain ⟨a,ha,rfl⟩:=eF;refine ⟨a,ha,?_⟩;split
  ·rename_i hk
   have:a=o:=by have:=cY hw.objs ha;rw [hk,ho] at this;exact (Option.some.inj this).symm
   exact .inl ⟨hk,this,by rw [this]⟩
  ·rename_i hk;exact .inr ⟨hk,rfl,apart hw.objs ha Lw.1 (by rw [Lw.2];exact hk)⟩
 refine { tab:=fun j g0 g1=>?_,bor:=fun o' eF=>?_,cls:=fun o' eF=>?_,shp:=fun o' eF=>?_,wrd:=fun o' eF ca j hj=>?_,byt:=fun o' eF ca j hj=>?_,byr:=fun o' eF ca j JW sc=>?_,low1:=hs.low1,low2:=hs.low2,low3:=fun j g0 g1=>?_ }
 ·rw [hs.tab j g0 g1];have e:=dG (l:=r.objs) (k:=k) (j:=j) (f:=eC i w) fun _=>rfl;simp only [e];cases aG r.objs j with
  | none=>rfl
  | some a=>simp only [Vw];split <;> rfl
 ·obtain ⟨a,ha,⟨hk,rfl,rfl⟩ | ⟨hk,rfl,hd⟩⟩:=key o' eF
  ·exact hs.bor a ha
  ·exact hs.bor _ ha
 ·obtain ⟨a,ha,⟨hk,rfl,rfl⟩ | ⟨hk,rfl,hd⟩⟩:=key o' eF
  ·show upd W _ w a.place=a.cls;rw [upd,Uq (by omega)];exact hs.cls _ ha
  ·have:=o'.len_pos;rw [upd,Uq (by omega)];exact hs.cls _ ha
 ·obtain ⟨a,ha,⟨hk,rfl,rfl⟩ | ⟨hk,rfl,hd⟩⟩:=key o' eF
  ·show upd W _ w (a.place+1)=2*(((a.slots.set i.toNat w).length:Nat):Int)+a.fmt;rw [upd,Uq (by omega),WD];exact hs.shp _ ha
  ·have:=o'.len_pos;rw [upd,Uq (by omega)];exact hs.shp _ ha
 ·obtain ⟨a,ha,⟨hk,rfl,rfl⟩ | ⟨hk,rfl,hd⟩⟩:=key o' eF
  ·have Lj:j<a.slots.length:=by simpa [eC] using hj
   show upd W _ w (a.place+2+j)=(a.slots.set i.toNat w).getD j 0;unfold upd;split
   ·rename_i he
    have:i.toNat=j:=by omega
    simp [this,Lj]
   ·rename_i he;have b9:i.toNat≠j:=by omega
    rw [hs.wrd _ ha hf j Lj];simp [VY,b9]
  ·have hl:o'.len=2+(o'.slots.length:Int):=by unfold RO.len lenOf;rw [Uq (by omega)]
   rw [upd,Uq (by omega)];exact hs.wrd _ ha ca j hj
 ·obtain ⟨a,ha,⟨hk,rfl,rfl⟩ | ⟨hk,rfl,hd⟩⟩:=key o' eF
  ·have:a.fmt=1:=ca;omega
  ·have hl:o'.len=2+((o'.slots.length:Int)+3) / 4:=by unfold RO.len lenOf;rw [Ur ca]
   rw [upd,Uq (by omega)];exact hs.byt _ ha ca j hj
 ·obtain ⟨a,ha,⟨hk,rfl,rfl⟩ | ⟨hk,rfl,hd⟩⟩:=key o' eF
  ·have:a.fmt=1:=ca;omega
  ·rw [upd,Uq (by omega)];exact hs.byr _ ha ca j JW sc
 ·have:=hs.low3 j g0 g1;have e:=dG (l:=r.objs) (k:=k) (j:=j) (f:=eC i w) fun _=>rfl;simp only [e];cases hj:aG r.objs j with
  | none=>exact absurd hj this
  | some a=>simp
theorem ql {F:aR} (hR:dF H hb F r){k i w:Int} (hf:∀ o,aG r.objs k=some o->o.fmt=0) (h:∀ H',dF H' hb F (r.put k i w).2->Fr F H H'->Q (ac (r.put k i w).1) H'):ae PP 148 #[Kj hb,ac k,ac i,ac w] Q H:=by
 have Gl:=hR;obtain ⟨wb,tb,bb,W,T,B,low,rfl,hR⟩:=hR;apply xw;dsimp only [bJ,ao,iU,bv,aB,aH,bq,ac,bu,aN,am,bP];refine vq hR ?_;unfold tJ;have eh:=mN hR.wf k i w;unfold RH.put at h eh;cases ho:aG r.objs k with
 | none=>rw [ho] at h;exact ⟨_,_,_,_,rfl,by simpa using h H Gl (Fr.refl _ _)⟩
 | some o =>
  rw [ho] at h eh;have hm:=(aD ho).1;obtain ⟨h1,h2,h3,h4,h5,h6⟩:=hR.in_ hm;simp only at h eh ⊢;split
  ·rename_i hi;simp only [Ur hi] at h;exact ⟨_,_,_,_,rfl,by simpa using h H Gl (Fr.refl _ _)⟩
  ·rename_i hi;simp only [Uq hi] at h eh;have hs:=sw hR hm (i:=i) (by omega) (by omega);have hE:=hf o ho;rw [Uq (by omega)];have hs:=hs.2 (by omega);refine ⟨_,_,_,_,rfl,?_⟩;simp only [ah,UK,Ut,Uw,UA,bh,aW,bC,bE,bi,bF,bz,aX,bB,bA,bg,bD,UT,UU,UV,aC,UE,UC,aM,aI,aU,UB,UG,bI,bK,ne_eq,not_true_eq_false,if_false];refine EX hR.kinds ⟨_,rfl,?_⟩;by_cases Gs:dY o.fmt w
   ·simp only [Gs,not_true_eq_false,if_false] at h eh;have uH:dY 0 w:=hE ▸ Gs;simp only [ah,UK,Ut,Uw,UA,bh,aW,bC,bE,bi,bF,bz,aX,bB,bA,bg,bD,UT,UU,UV,aC,UE,UC,aM,aI,aU,UB,UG,bI,bK,hE,uH,decide_true,hR.c0];rw [Uq (by decide)];refine ⟨by omega,by omega,hR.mw.wr (by omega) (by omega),h _ ⟨wb,tb,bb,upd W (o.place+2+i) w,T,B,low,rfl,?_⟩ (Fr.set (by simp))⟩;have hd:=hR.d;simp only [Vl,Us,UO,U5,Vt] at hd;refine { hd:=?_,mw:=hR.mw.set (by omega) w,mt:=hR.mt.set_ne (by simp;omega) _,mb:=hR.mb.set_ne (by simp;omega) _,d:=hR.d,kinds:=hR.kinds.fr (Fr.set (F:=[wb]) (by simp)) (by simp;omega),wf:=eh,sim:=He hR.wf hR.sim ho (by omega) (by omega) hE }
    have:=hR.hd.set_ne (a:=⟨wb,(o.place+2+i).toNat,none⟩) (by simp;omega) (ac w);simp only [uB,nF (k:=k) (f:=eC i w) (l:=r.objs) (fun _=>rfl) (jg i w)];exact this
   ·simp only [Gs,not_false_eq_true,if_true] at h;simp only [ah,UK,Ut,Uw,UA,bh,aW,bC,bE,bi,bF,bz,aX,bB,bA,bg,bD,UT,UU,UV,aC,UE,UC,aM,aI,aU,UB,UG,bI,bK,Gs,decide_false];exact h H Gl (Fr.refl _ _)
end
structure PV where
 W:Int->Int
 T:Int->Int
 B:Int->Int
 count:Int
 en:Int
 low:Int
 mark:Int
 ever:Int
 turn:Int
structure Raw (H:ag) (hb wb tb bb nw nt:Nat) (p:PV):Prop where
 hd:bH H hb #[.slice (some ⟨wb,0,none⟩) nw nw,.slice (some ⟨tb,0,none⟩) nt nt,.slice (some ⟨bb,0,none⟩) nt nt,ac p.count,ac p.en,ac p.low,ac p.mark,ac p.ever,ac p.turn]
 mw:eM H wb nw p.W
 mt:eM H tb nt p.T
 mb:eM H bb nt p.B
 d:[hb,wb,tb,bb,aS].Nodup
section
variable {H:ag}{hb wb tb bb nw nt:Nat}{p:PV}{W T B:Int->Int}{low:Int}{r:RH}{Q:QT}
theorem PHs.raw (h:PHs H hb wb tb bb W T B low r):Raw H hb wb tb bb r.words.toNat (r.oops+1).toNat ⟨W,T,B,r.objs.length,bx r.objs,low,r.mark,r.born,r.turn⟩:=⟨h.hd,h.mw,h.mt,h.mb,h.d⟩
theorem Raw.phs (h:Raw H hb wb tb bb nw nt p) (hk:dT H) (hw:WFH r) (hs:SimH p.W p.T p.B p.low r) (e1:nw=r.words.toNat) (e2:nt=(r.oops+1).toNat) (e3:p.count=r.objs.length) (e4:p.en=bx r.objs) (e5:p.mark=r.mark) (e6:p.ever=r.born) (e7:p.turn=r.turn):PHs H hb wb tb bb p.W p.T p.B p.low r:=by
 subst e1;subst e2;have h1:=h.hd;rw [e3,e4,e5,e6,e7] at h1;exact ⟨h1,h.mw,h.mt,h.mb,h.d,hk,hw,hs⟩
theorem Raw.c0 (h:Raw H hb wb tb bb nw nt p):aq H ⟨hb,0,none⟩=some (.slice (some ⟨wb,0,none⟩) nw nw):=h.hd.cell 0
theorem Raw.c1 (h:Raw H hb wb tb bb nw nt p):aq H ⟨hb,1,none⟩=some (.slice (some ⟨tb,0,none⟩) nt nt):=h.hd.cell 1
theorem Raw.c2 (h:Raw H hb wb tb bb nw nt p):aq H ⟨hb,2,none⟩=some (.slice (some ⟨bb,0,none⟩) nt nt):=h.hd.cell 2
theorem Raw.c3 (h:Raw H hb wb tb bb nw nt p):aq H ⟨hb,3,none⟩=some (ac p.count):=h.hd.cell 3
theorem Raw.c4 (h:Raw H hb wb tb bb nw nt p):aq H ⟨hb,4,none⟩=some (ac p.en):=h.hd.cell 4
theorem Raw.c5 (h:Raw H hb wb tb bb nw nt p):aq H ⟨hb,5,none⟩=some (ac p.low):=h.hd.cell 5
theorem Raw.c6 (h:Raw H hb wb tb bb nw nt p):aq H ⟨hb,6,none⟩=some (ac p.mark):=h.hd.cell 6
theorem Raw.c7 (h:Raw H hb wb tb bb nw nt p):aq H ⟨hb,7,none⟩=some (ac p.ever):=h.hd.cell 7
theorem Raw.c8 (h:Raw H hb wb tb bb nw nt p):aq H ⟨hb,8,none⟩=some (ac p.turn):=h.hd.cell 8
theorem Raw.word (h:Raw H hb wb tb bb nw nt p){i:Int} (h0:0<=i) (h1:i<nw):aq H ⟨wb,i.toNat,none⟩=some (ac (p.W i)):=h.mw.cell h0 h1
theorem Raw.tabc (h:Raw H hb wb tb bb nw nt p){i:Int} (h0:0<=i) (h1:i<nt):aq H ⟨tb,i.toNat,none⟩=some (ac (p.T i)):=h.mt.cell h0 h1
theorem Raw.ne (h:Raw H hb wb tb bb nw nt p):(hb≠wb∧hb≠tb∧hb≠bb∧hb≠aS)∧(wb≠tb∧wb≠bb∧wb≠aS)∧(tb≠bb∧tb≠aS)∧bb≠aS:=by
 have hd:=h.d;simpa only [Vl,Us,UO,U5,Vt,not_false_eq_true,List.nodup_nil,UV] using hd
theorem Raw.setW (h:Raw H hb wb tb bb nw nt p){i:Int} (h0:0<=i) (v:Int):Raw (bc H ⟨wb,i.toNat,none⟩ (ac v)) hb wb tb bb nw nt { p with W:=upd p.W i v }:=by
 obtain ⟨⟨n1,n2,n3,n4⟩,⟨n5,n6,n7⟩,⟨n8,n9⟩,n10⟩:=h.ne;exact ⟨h.hd.set_ne n1 _,h.mw.set h0 v,h.mt.set_ne n5.symm _,h.mb.set_ne n6.symm _,h.d⟩
theorem Raw.setT (h:Raw H hb wb tb bb nw nt p){i:Int} (h0:0<=i) (v:Int):Raw (bc H ⟨tb,i.toNat,none⟩ (ac v)) hb wb tb bb nw nt { p with T:=upd p.T i v }:=by
 obtain ⟨⟨n1,n2,n3,n4⟩,⟨n5,n6,n7⟩,⟨n8,n9⟩,n10⟩:=h.ne;exact ⟨h.hd.set_ne n2 _,h.mw.set_ne n5 _,h.mt.set h0 v,h.mb.set_ne n8.symm _,h.d⟩
theorem Raw.setB (h:Raw H hb wb tb bb nw nt p){i:Int} (h0:0<=i) (v:Int):Raw (bc H ⟨bb,i.toNat,none⟩ (ac v)) hb wb tb bb nw nt { p with B:=upd p.B i v }:=by
 obtain ⟨⟨n1,n2,n3,n4⟩,⟨n5,n6,n7⟩,⟨n8,n9⟩,n10⟩:=h.ne;exact ⟨h.hd.set_ne n3 _,h.mw.set_ne n6 _,h.mt.set_ne n8 _,h.mb.set h0 v,h.d⟩
theorem Raw.set3 (h:Raw H hb wb tb bb nw nt p) (v:Int):Raw (bc H ⟨hb,3,none⟩ (ac v)) hb wb tb bb nw nt { p with count:=v }:=by
 obtain ⟨⟨n1,n2,n3,n4⟩,_⟩:=h.ne;exact ⟨h.hd.set 3 (ac v),h.mw.set_ne n1.symm _,h.mt.set_ne n2.symm _,h.mb.set_ne n3.symm _,h.d⟩
theorem Raw.set4 (h:Raw H hb wb tb bb nw nt p) (v:Int):Raw (bc H ⟨hb,4,none⟩ (ac v)) hb wb tb bb nw nt { p with en:=v }:=by
 obtain ⟨⟨n1,n2,n3,n4⟩,_⟩:=h.ne;exact ⟨h.hd.set 4 (ac v),h.mw.set_ne n1.symm _,h.mt.set_ne n2.symm _,h.mb.set_ne n3.symm _,h.d⟩
theorem Raw.set5 (h:Raw H hb wb tb bb nw nt p) (v:Int):Raw (bc H ⟨hb,5,none⟩ (ac v)) hb wb tb bb nw nt { p with low:=v }:=by
 obtain ⟨⟨n1,n2,n3,n4⟩,_⟩:=h.ne;exact ⟨h.hd.set 5 (ac v),h.mw.set_ne n1.symm _,h.mt.set_ne n2.symm _,h.mb.set_ne n3.symm _,h.d⟩
theorem Raw.set6 (h:Raw H hb wb tb bb nw nt p) (v:Int):Raw (bc H ⟨hb,6,none⟩ (ac v)) hb wb tb bb nw nt { p with mark:=v }:=by
 obtain ⟨⟨n1,n2,n3,n4⟩,_⟩:=h.ne;exact ⟨h.hd.set 6 (ac v),h.mw.set_ne n1.symm _,h.mt.set_ne n2.symm _,h.mb.set_ne n3.symm _,h.d⟩
theorem Raw.set7 (h:Raw H hb wb tb bb nw nt p) (v:Int):Raw (bc H ⟨hb,7,none⟩ (ac v)) hb wb tb bb nw nt { p with ever:=v }:=by
 obtain ⟨⟨n1,n2,n3,n4⟩,_⟩:=h.ne;exact ⟨h.hd.set 7 (ac v),h.mw.set_ne n1.symm _,h.mt.set_ne n2.symm _,h.mb.set_ne n3.symm _,h.d⟩
theorem Raw.set8 (h:Raw H hb wb tb bb nw nt p) (v:Int):Raw (bc H ⟨hb,8,none⟩ (ac v)) hb wb tb bb nw nt { p with turn:=v }:=by
 obtain ⟨⟨n1,n2,n3,n4⟩,_⟩:=h.ne;exact ⟨h.hd.set 8 (ac v),h.mw.set_ne n1.symm _,h.mt.set_ne n2.symm _,h.mb.set_ne n3.symm _,h.d⟩
theorem Raw.wrh (h:Raw H hb wb tb bb nw nt p){i:Nat} (hi:i<9):Wr H ⟨hb,i,none⟩:=h.hd.wr hi
theorem Raw.keep (h:Raw H hb wb tb bb nw nt p){F:aR}{H':ag} (hf:Fr F H H') (hd:dB [hb,wb,tb,bb] F):Raw H' hb wb tb bb nw nt p :=
 ⟨h.hd.fr hf (hd _ (by simp)),h.mw.fr hf (hd _ (by simp)),h.mt.fr hf (hd _ (by simp)),h.mb.fr hf (hd _ (by simp)),h.d⟩
def Ht (p:PV) (oop cls n f:Int):PV:={ p with W:=upd (upd p.W p.en cls) (p.en+1) (2*n+f),T:=upd p.T oop p.en,B:=upd p.B oop p.ever,en:=p.en+lenOf n f,ever:=IntKind.wrap .i64 (p.ever+1),count:=p.count+1 }
theorem HJ (hR:Raw H hb wb tb bb nw nt p){oop cls n f:Int} (h0:0<=p.en) (h1:p.en+2<=nw) (Pt:nw<=1048576) (h2:0<=oop) (h3:oop<nt) (h4:0<=n) (h5:n<=8192) (h6:f=0∨f=1) (h7:0<=p.count) (h8:p.count<=100000)
  (h:∀ H',Raw H' hb wb tb bb nw nt (Ht p oop cls n f)->Fr [hb,wb,tb,bb] H H'->Q (ac p.en) H'):ae PP 142 #[Kj hb,ac oop,ac cls,ac n,ac f] Q H:=by
 apply Cg;dsimp only [aT,aB,aH,bq,ac,bu,aN,bP,bd];have e1:gQ .i64 n 1=2*n:=by
  have:=lK n 1 (by decide) ⟨by simp;omega,by simp;omega⟩;simpa [WW] using this
 have e2:xG .i64 (2*n) f=2*n+f:=by
  have:=oX (2*n) 1 f.toNat (by decide) (by omega) ⟨by omega,by omega⟩ (by simp);rw [Vh (by omega)] at this;exact this
 have e3:IntKind.wrap .i64 (p.en+1)=p.en+1:=az (by omega) (by omega);have r1:=hR.setW (i:=p.en) h0 cls;have r2:=r1.setW (i:=p.en+1) (by omega) (2*n+f);have r3:=r2.setT (i:=oop) h2 p.en;have r4:=r3.setB (i:=oop) h2 p.ever;have hl:=pz (n:=n) (fmt:=f) h4;have JC:=kE (n:=n) (fmt:=f) h4;have e4:IntKind.wrap .i64 (p.en+lenOf n f)=p.en+lenOf n f:=az (by omega) (by omega);have e5:IntKind.wrap .i64 (p.count+1)=p.count+1:=az (by omega) (by omega);have r5:=r4.set4 (p.en+lenOf n f);have r6:=r5.set7 (IntKind.wrap .i64 (p.ever+1));have r7:=r6.set3 (p.count+1);simp only [ah,UK,Ut,Uw,UA,bh,aW,bC,bE,bi,bF,bz,aX,bB,bA,bg,bD,UT,UU,UV,aC,UE,UC,aM,aI,aU,UB,UG,bI,bK,e1,e2,e3,hR.c4,hR.c0,r2.c1,r2.c2,r2.c7,r4.c4];refine ⟨by omega,by omega,hR.mw.wr h0 (by omega),by omega,by omega,r1.mw.wr (by omega) (by omega),by omega,by omega,r2.mt.wr h2 h3,h2,h3,r3.mb.wr h2 h3,?_⟩;refine lZ h4 (by omega) ?_;simp only [ah,UK,Ut,Uw,UA,bh,aW,bC,bE,bi,bF,bz,aX,bB,bA,bg,bD,UT,UU,UV,aC,UE,UC,aM,aI,aU,UB,UG,bI,bK,r4.c4,e4,r5.c7,r6.c3,e5];refine ⟨r4.wrh (by decide),r5.wrh (by decide),r6.wrh (by decide),h _ r7 ?_⟩
 ·exact ((((((((Fr.refl _ _).step (by simp)).step (by simp)).step (by simp)).step (by simp)).step (by simp)).step (by simp)).step (by simp))
end
section
variable {H:ag}{hb wb tb bb:Nat}{W T B:Int->Int}{low:Int}{r:RH}{Q:QT}
theorem Fc (hw:WFH r) (hs:SimH W T B low r){cls n f m' ev':Int}{W':Int->Int} (hn:0<=n) (hf:f=0∨f=1) (aa:(r.objs.length:Int)<r.oops)
  (h0:∀ i,i<bx r.objs->W' i=W i) (h1:W' (bx r.objs)=cls) (h2:W' (bx r.objs+1)=2*n+f) (h3:∀ i,bx r.objs+2<=i->i<bx r.objs+lenOf n f->W' i=if f=1 then 0 else 4) :
  SimH W' (upd T (cM r.objs) (bx r.objs)) (upd B (cM r.objs) r.born) (cM r.objs+1) { r with mark:=m',born:=ev',objs:=r.objs++[dM r cls n f] }:=by
 have hl:=fQ hw.objs hw.o1 aa;have F6:=fF hw.objs hw.w0;have key:∀ o∈r.objs++[dM r cls n f],(o∈r.objs∧o.place+o.len<=bx r.objs∧o.oop≠cM r.objs)∨o=dM r cls n f:=by
  intro o ho;rcases Uz.1 ho with ho | ho
  ·exact .inl ⟨ho,lF hw.objs ho,eO.1 hl.2.2.1 o ho⟩
  ·exact .inr (by simpa using ho)
 have MW:((dM r cls n f).slots.length:Int)=n:=by simp only [dM,VG];omega
 have Mk:(dM r cls n f).len=lenOf n f:=by simp only [RO.len,MW];rfl
 have CI:∀ i:Nat,i<(dM r cls n f).slots.length->(dM r cls n f).slots.getD i 0=if f=1 then 0 else 4:=by
  intro i hi;simp only [dM,VG] at hi;simp [dM,hi]
 refine { tab:=fun j g0 g1=>?_,bor:=fun o ho=>?_,cls:=fun o ho=>?_,shp:=fun o ho=>?_,wrd:=fun o ho ca j hj=>?_,byt:=fun o ho ca j hj=>?_,byr:=fun o ho ca j JW sc=>?_,low1:=by omega,low2:=by show cM r.objs+1<=r.oops+1;omega,low3:=fun j g0 g1=>?_ }
 ·have e:=eZ (l:=r.objs) (x:=dM r cls n f) (k:=j);simp only [e];unfold upd;by_cases hj:j=cM r.objs
  ·subst hj;rw [Ur rfl,hl.2.2.1];simp [dM]
  ·rw [Uq hj,hs.tab j g0 g1];cases aG r.objs j with
   | some o=>rfl
   | none =>
    simp only;rw [Uq];exact fun e=>hj e.symm
 ·rcases key o ho with ⟨h4,h5,h6⟩ | rfl
  ·rw [upd,Uq h6];exact hs.bor o h4
  ·simp [dM,upd]
 ·rcases key o ho with ⟨h4,h5,h6⟩ | rfl
  ·have:=o.len_pos;rw [h0 _ (by omega)];exact hs.cls o h4
  ·exact h1
 ·rcases key o ho with ⟨h4,h5,h6⟩ | rfl
  ·have:=o.len_pos;rw [h0 _ (by omega)];exact hs.shp o h4
  ·rw [MW];exact h2
 ·rcases key o ho with ⟨h4,h5,h6⟩ | rfl
  ·have D0:o.len=2+(o.slots.length:Int):=by unfold RO.len lenOf;rw [Uq (by omega)]
   rw [h0 _ (by omega)];exact hs.wrd o h4 ca j hj
  ·rw [CI j hj];have hE:f=0:=ca;have D0:lenOf n f=2+n:=by unfold lenOf;rw [Uq (by omega)]
   exact h3 _ (by simp only [dM];omega) (by simp only [dM];rw [D0];omega)
 ·rcases key o ho with ⟨h4,h5,h6⟩ | rfl
  ·have D0:o.len=2+((o.slots.length:Int)+3) / 4:=by unfold RO.len lenOf;rw [Ur ca]
   rw [h0 _ (by omega)];exact hs.byt o h4 ca j hj
  ·rw [CI j hj];have be:f=1:=ca;have D0:lenOf n f=2+(n+3) / 4:=by unfold lenOf;rw [Ur be]
   rw [h3 _ (by simp only [dM];omega) (by simp only [dM];rw [D0];omega),Ur be];simp
 ·rcases key o ho with ⟨h4,h5,h6⟩ | rfl
  ·rw [h0 _ (by omega)];exact hs.byr o h4 ca j JW sc
  ·have be:f=1:=ca;rw [Mk] at sc;rw [h3 _ JW sc,Ur be];simp
 ·have e:=eZ (l:=r.objs) (x:=dM r cls n f) (k:=j);simp only [e];by_cases hj:j=cM r.objs
  ·subst hj;rw [hl.2.2.1];simp [dM]
  ·have:=hl.2.2.2 j g0 (by omega);cases hj:aG r.objs j with
   | none=>exact absurd hj this
   | some o=>simp
theorem sD {F:aR} (hR:dF H hb F r){cls n f:Int} (h:∀ H',dF H' hb F (r.alloc cls n f).2->Fr F H H'->Q (D5 (r.alloc cls n f).1) H'):ae PP 72 #[Kj hb,ac cls,ac n,ac f] Q H:=by
 have Gl:=hR;obtain ⟨wb,tb,bb,W,T,B,low,rfl,hR⟩:=hR;apply FH;dsimp only [aF,mH,bJ,aT,ao,cS,bv,aB,aH,bq,ac,bu,zp,cX,au,ck,aN,am,ax,bP,bd];have eh:=hR.wf;have Pu:=fF eh.objs eh.w0;have Rt:=eh.w1;have OR:=eh.o0;have CO:=eh.o1;have Rs:=eh.m0;have w6:=eh.m1;have b9:=hR.raw.ne;refine ⟨fun w H'=>w=[]∧PHs H' hb wb tb bb W T B low { r with mark:=if 0<r.mark then r.mark-1 else r.mark }∧Fr [hb,wb,tb,bb] H H'∧cP cls∧(f=0∨f=1)∧0<=n∧n<=8192∧(r.objs.length:Int)<r.oops∧bx r.objs+lenOf n f<=r.words∧r.mark≠1,?_,?_⟩
 ·refine pC hR ⟨_,rfl,?_⟩;simp only [Ut];refine uo hR.kinds ⟨_,rfl,?_⟩;unfold RH.alloc at h;by_cases r0:cP cls
  ·by_cases hf:f=0∨f=1
   ·simp only [ah,UK,Ut,Uw,UA,bh,aW,bC,bE,bi,bF,bz,aX,bB,bA,bg,bD,UT,UU,UV,aC,UE,UC,aM,aI,aU,UB,UG,bI,bK,r0,decide_true];have hX:∀ {X Y:Prop},X->(if f≠0 then if f≠1 then Y else X else X):=fun {X Y} hx=>by
     split
     ·rw [Uq (by omega)];exact hx
     ·exact hx
    refine hX ?_;split
    ·rename_i hn;simp only [r0,not_true_eq_false,false_or,hn,or_true,if_true] at h;exact h H Gl (Fr.refl _ _)
    ·rename_i hn;have n1:¬ (¬ cP cls∨f<0∨1<f∨n<0):=fun hh=>hh.elim (fun hh=>hh r0) (by omega);rw [Uq n1] at h;split
     ·rename_i Fd;rw [Ur (by omega)] at h;exact h H Gl (Fr.refl _ _)
     ·rename_i Fd;rw [Uq (by omega)] at h;have hl:=pz (n:=n) (fmt:=f) (by omega);have JC:=kE (n:=n) (fmt:=f) (by omega);simp only [ah,UK,Ut,Uw,UA,bh,aW,bC,bE,bi,bF,bz,aX,bB,bA,bg,bD,UT,UU,UV,aC,UE,UC,aM,aI,aU,UB,UG,bI,bK,hR.c3,hR.c1,hR.c0,hR.c4];rw [az (n:=((r.oops+1).toNat:Int)-1) (by omega) (by omega)];split
      ·rename_i hc;rw [Ur (.inl (by omega))] at h;exact h H Gl (Fr.refl _ _)
      ·rename_i hc;refine lZ (by omega) (by omega) ⟨_,rfl,hR.c4,hR.c0,?_⟩;rw [az (n:=(r.words.toNat:Int)-bx r.objs) (by omega) (by omega)];simp only [ah,UK,Ut,Uw,UA,bh,aW,bC,bE,bi,bF,bz,aX,bB,bA,bg,bD,UT,UU,UV,aC,UE,UC,aM,aI,aU,UB,UG,bI,bK,hR.c6];split
       ·rename_i Mf;rw [Ur (.inr (by omega))] at h;exact h H Gl (Fr.refl _ _)
       ·rename_i Mf;rw [Uq (by omega)] at h;split
        ·rename_i hm;rw [Ur hm] at h;have r1:=hR.raw.set6 0;exact ⟨hR.raw.wrh (by decide),h _ ⟨wb,tb,bb,W,T,B,low,rfl,r1.phs (hR.kinds.fr (Fr.set (F:=[hb]) (by simp)) (by simp;omega)) { eh with m0:=by simp,m1:=by simp } { hR.sim with } rfl rfl rfl rfl rfl rfl rfl⟩ (Fr.set (by simp))⟩
        ·rename_i hm;split
         ·rename_i Mj;have r1:=hR.raw.set6 (r.mark-1);rw [az (n:=r.mark-1) (by omega) (by omega)];refine ⟨hR.raw.wrh (by decide),?_,Fr.set (by simp),hf,by omega,by omega,by omega,by omega,hm⟩;exact r1.phs (hR.kinds.fr (Fr.set (F:=[hb]) (by simp)) (by simp;omega)) { eh with m0:=by simp;omega,m1:=by simp;omega } { hR.sim with } rfl rfl rfl rfl rfl rfl rfl
         ·rename_i Mj;refine ⟨?_,Fr.refl _ _,hf,by omega,by omega,by omega,by omega,hm⟩;exact hR
   ·simp only [ah,UK,Ut,Uw,UA,bh,aW,bC,bE,bi,bF,bz,aX,bB,bA,bg,bD,UT,UU,UV,aC,UE,UC,aM,aI,aU,UB,UG,bI,bK,r0,decide_true];rw [Ur (by omega),Ur (by omega)];rw [Ur (by omega)] at h;exact h H Gl (Fr.refl _ _)
  ·simp only [ah,UK,Ut,Uw,UA,bh,aW,bC,bE,bi,bF,bz,aX,bB,bA,bg,bD,UT,UU,UV,aC,UE,UC,aM,aI,aU,UB,UG,bI,bK,r0,decide_false];rw [Ur (.inl r0)] at h;exact h H Gl (Fr.refl _ _)
 ·rintro w H1 ⟨rfl,ow,tl,r0,hf,hn,Fd,aa,q6,hm⟩ _;have JD:=fQ eh.objs CO aa;have D0:=hR.sim.low3;have Np:low<=cM r.objs:=by
   refine Uv fun hc=>?_;exact D0 _ JD.1 (by omega) JD.2.2.1
  have hl:=pz (n:=n) (fmt:=f) (by omega);have JC:=kE (n:=n) (fmt:=f) (by omega);have Lv:=hR.sim.low1;refine ⟨rfl,?_⟩;simp only [ah,UK,Ut,Uw,UA,bh,aW,bC,bE,bi,bF,bz,aX,bB,bA,bg,bD,UT,UU,UV,aC,UE,UC,aM,aI,aU,UB,UG,bI,bK,ow.c5];refine ⟨fun w H'=>H'=H1∧∃ k,w=[ac k]∧low<=k∧k<=cM r.objs,fun w _=>match w with
   | [.int _ k]=>(cM r.objs-k).toNat
   | _=>0,⟨rfl,low,rfl,Vo _,Np⟩,?_⟩
  rintro w H2 ⟨rfl,k,rfl,AT,JR⟩ _;refine ⟨k,rfl,?_⟩;have ix:=hR.sim.tab k (by omega) (by omega);have e1:IntKind.wrap .i64 (k+1)=k+1:=az (by omega) (by omega);simp only [ah,UK,Ut,Uw,UA,bh,aW,bC,bE,bi,bF,bz,aX,bB,bA,bg,bD,UT,UU,UV,aC,UE,UC,aM,aI,aU,UB,UG,bI,bK,e1,ow.c1,ow.tabc (i:=k) (by omega) (by show k<=r.oops;omega)];refine ⟨by omega,by show k<((r.oops+1).toNat:Int);omega,?_⟩;split
  ·rename_i hT;have hne2:k≠cM r.objs:=by
    rintro rfl;rw [ix,JD.2.2.1] at hT;simp at hT
   exact ⟨⟨k+1,rfl,by omega,by omega⟩,by simp;omega⟩
  ·rename_i hT;have JE:k=cM r.objs:=by
    refine Uv fun hc=>?_;cases ho:aG r.objs k with
    | none=>exact JD.2.2.2 k (by omega) (by omega) ho
    | some o =>
     rw [ho] at ix;simp only at ix
     have:=(hR.wf.objs.good o (aD ho).1).pl;omega
   have r1:=ow.raw.set5 (k+1);refine ⟨ow.raw.wrh (by decide),?_⟩;simp only [r1.c0,r1.c4,ah,UK,Ut,Uw,UA,bh,aW,bC,bE,bi,bF,bz,aX,bB,bA,bg,bD,UT,UU,UV,aC,UE,UC,aM,aI,aU,UB,UG,bI,bK];refine lZ (by omega) (by omega) ?_;simp only [r1.c0,r1.c4,ah,UK,Ut,Uw,UA,bh,aW,bC,bE,bi,bF,bz,aX,bB,bA,bg,bD,UT,UU,UV,aC,UE,UC,aM,aI,aU,UB,UG,bI,bK];have ew1:IntKind.wrap .i64 (bx r.objs+lenOf n f)=bx r.objs+lenOf n f:=az (by omega) (by omega);have ew2:IntKind.wrap .i64 (bx r.objs+2)=bx r.objs+2:=az (by omega) (by omega);simp only [ew1,ew2];have last:∀ H' W',Raw H' hb wb tb bb r.words.toNat (r.oops+1).toNat ⟨W',T,B,r.objs.length,bx r.objs,k+1,if 0<r.mark then r.mark-1 else r.mark,r.born,r.turn⟩->Fr [hb,wb,tb,bb] H2 H'->(∀ i,i<bx r.objs->W' i=W i)->(∀ i,bx r.objs+2<=i->i<bx r.objs+lenOf n f->W' i=if f=1 then 0 else 4) ->
     ae PP 142 #[Kj hb,ac k,ac cls,ac n,ac f] (fun v H10=>∃ m:Int,v=ac m∧Q (.tuple #[ac k,ac 0]) H10) H':=by
    intro H' W' hr r9 Pv Pw;refine HJ hr Pu.1 (by show bx r.objs+2<=(r.words.toNat:Int);omega) (by omega) (by omega) (by omega) hn Fd hf (by show (0:Int)<=(r.objs.length:Int);omega) (by show (r.objs.length:Int)<=100000;omega) fun H3 l5 J9=>⟨_,rfl,?_⟩;have It:r.alloc cls n f=((cM r.objs,0),{ r with mark:=if 0<r.mark then r.mark-1 else r.mark,born:=IntKind.wrap .i64 (r.born+1),objs:=r.objs++[dM r cls n f] }):=by
     unfold RH.alloc;rw [Uq (fun hh=>hh.elim (fun hh=>hh r0) (by omega)),Uq (by omega),Uq (by omega),Uq hm]
    have KN:=kC eh cls n f;rw [It] at h KN;rw [JE];have Mk:(dM r cls n f).len=lenOf n f:=by simp only [RO.len,dM,VG];congr 1;omega
    have Nq:=Fc (T:=T) (B:=B) (low:=low) eh hR.sim (m':=if 0<r.mark then r.mark-1 else r.mark) (ev':=IntKind.wrap .i64 (r.born+1)) (W':=upd (upd W' (bx r.objs) cls) (bx r.objs+1) (2*n+f)) hn hf aa
     (cls:=cls) (fun i hi=>by rw [upd,Uq (by omega),upd,Uq (by omega)];exact Pv i hi) (by rw [upd,Uq (by omega)];simp [upd]) (by simp [upd]) (fun i g1 g2=>by rw [upd,Uq (by omega),upd,Uq (by omega)];exact Pw i g1 g2)
    rw [←JE] at Nq;have hkinds:dT H3:=ow.kinds.fr (F:=[hb,wb,tb,bb]) (r9.trans J9) (by simp only [Us,UO,U5,Vt];exact ⟨fun e=>b9.1.2.2.2 e.symm,fun e=>b9.2.1.2.2 e.symm,fun e=>b9.2.2.1.2 e.symm,fun e=>b9.2.2.2 e.symm⟩);exact h H3 ⟨wb,tb,bb,_,_,_,_,rfl,l5.phs hkinds KN Nq rfl rfl (by simp [Ht]) (by show bx r.objs+lenOf n f=bx (r.objs++[dM r cls n f]);rw [dD,Mk];rfl) rfl rfl rfl⟩ (tl.trans (r9.trans J9))
   refine ⟨by omega,by omega,by omega,by omega,?_⟩;have LL:(bx r.objs+lenOf n f).toNat-(bx r.objs+2).toNat=(lenOf n f-2).toNat:=by omega
   rw [LL];refine ml (bs:=8) (by kernel_rfl) r1.mw (by omega) (by omega) fun H3 Mi OO JB=>?_;have J9:Fr [hb,wb,tb,bb] H2 H3:=(Fr.set (by simp)).trans ⟨by omega,fun b b8 Px=>JB b (fun e=>Px (by simp [e]))⟩;have l5:Raw H3 hb wb tb bb r.words.toNat (r.oops+1).toNat ⟨fun i=>if bx r.objs+2<=i∧i<bx r.objs+2+((lenOf n f-2).toNat:Int) then 0 else W i,T,B,r.objs.length,bx r.objs,k+1,if 0<r.mark then r.mark-1 else r.mark,r.born,r.turn⟩ :=
    ⟨r1.hd.of_eq (JB _ b9.1.1),Mi,r1.mt.of_eq (JB _ b9.2.1.1.symm),r1.mb.of_eq (JB _ b9.2.1.2.1.symm),r1.d⟩
   split
   ·rename_i hE;have D0:lenOf n f=2+n:=by unfold lenOf;rw [Uq (by omega)]
    refine ⟨fun w H'=>∃ i:Int,w=[ac i]∧0<=i∧i<=n∧Fr [hb,wb,tb,bb] H2 H'∧Raw H' hb wb tb bb r.words.toNat (r.oops+1).toNat ⟨fun j=>if bx r.objs+2<=j∧j<bx r.objs+2+n then if j<bx r.objs+2+i then 4 else 0 else W j,T,B,r.objs.length,bx r.objs,k+1,if 0<r.mark then r.mark-1 else r.mark,r.born,r.turn⟩,
     fun w _=>match w with
      | [.int _ i]=>(n-i).toNat
      | _=>0,⟨0,rfl,by omega,hn,J9,?_⟩,?_⟩
    ·refine ⟨l5.hd,l5.mw.congr fun j _ _=>?_,l5.mt,l5.mb,l5.d⟩;show (if bx r.objs+2<=j∧j<bx r.objs+2+((lenOf n f-2).toNat:Int) then (0:Int) else W j)=if bx r.objs+2<=j∧j<bx r.objs+2+n then if j<bx r.objs+2+0 then 4 else 0 else W j;by_cases hj:bx r.objs+2<=j∧j<bx r.objs+2+n
     ·rw [Ur (by omega),Ur hj,Uq (by omega)]
     ·rw [Uq (by omega),Uq hj]
    ·rintro w H4 ⟨i,rfl,KO,Ng,Nr,Hs⟩ _;refine ⟨i,rfl,?_⟩;split
     ·rename_i hi;have k8:i<n:=by omega
      rw [oN (by omega)];simp only [ah,UK,Ut,Uw,UA,bh,aW,bC,bE,bi,bF,bz,aX,bB,bA,bg,bD,UT,UU,UV,aC,UE,UC,aM,aI,aU,UB,UG,bI,bK];have eo:(bx r.objs+2).toNat+i.toNat=(bx r.objs+2+i).toNat:=by omega
      rw [eo,az (n:=i+1) (by omega) (by omega)];refine ⟨by omega,hi,Hs.mw.wr (by omega) (by omega),⟨i+1,rfl,by omega,by omega,Nr.step (by simp),?_⟩,by simp;omega⟩;have KP:=Hs.setW (i:=bx r.objs+2+i) (by omega) 4;refine ⟨KP.hd,KP.mw.congr fun j _ _=>?_,KP.mt,KP.mb,KP.d⟩;show upd (fun j=>if bx r.objs+2<=j∧j<bx r.objs+2+n then if j<bx r.objs+2+i then 4 else 0 else W j) (bx r.objs+2+i) 4 j=if bx r.objs+2<=j∧j<bx r.objs+2+n then if j<bx r.objs+2+(i+1) then 4 else 0 else W j;unfold upd;by_cases hj:j=bx r.objs+2+i
      ·rw [Ur hj,Ur (by omega),Ur (by omega)]
      ·rw [Uq hj];show (if bx r.objs+2<=j∧j<bx r.objs+2+n then if j<bx r.objs+2+i then 4 else 0 else W j)=_;by_cases sc:bx r.objs+2<=j∧j<bx r.objs+2+n
       ·rw [Ur sc,Ur sc];by_cases Ru:j<bx r.objs+2+i
        ·rw [Ur Ru,Ur (by omega)]
        ·rw [Uq Ru,Uq (by omega)]
       ·rw [Uq sc,Uq sc]
     ·rename_i hi;refine last H4 _ Hs Nr (fun j hj=>?_) (fun j JW sc=>?_)
      ·rw [Uq (by omega)]
      ·rw [Ur (by omega),Ur (by omega),Uq (by omega)]
   ·rename_i hE;refine last H3 _ l5 J9 (fun j hj=>?_) (fun j JW sc=>?_)
    ·rw [Uq (by omega)]
    ·rw [Ur (by omega),Ur (by omega)]
end
end Go.Proofs.YtgjfejoohojokaaGreatDoor
namespace Kw
open Go
theorem im (l m:List RO) (k:Int):aG (l++m) k=(aG l k).or (aG m k):=by
 unfold aG;exact List.find?_append
theorem jA (o:RO) (l:List RO) (k:Int):aG (o :: l) k=if o.oop=k then some o else aG l k:=by
 unfold aG;simp only [V8];by_cases h:o.oop=k <;> simp [h]
theorem mj {words oops:Int}{l:List RO} (hw:WFO words oops l):2*(l.length:Int)<=bx l:=by
 generalize hn:l.length=n
 induction n generalizing l with
 | zero =>
  have:l=[]:=UX hn;subst this;simp [bx]
 | succ n ih =>
  rcases Vu l with rfl | ⟨m,x,rfl⟩
  ·cases hn
  ·simp only [VF] at *;have hm:m.length=n:=by simpa using hn
   have Py:WFO words oops m:=⟨fun o ho=>hw.good o (by simp [ho]),(VH.1 hw.pw).1⟩;have h1:=ih Py hm;have hx:=x.len_pos;have KQ:=(hw.good x (by simp)).pl;rw [dD]
   have:bx m<=x.place:=by
    rcases Vu m with rfl | ⟨m2,y,rfl⟩
    ·simpa [bx] using KQ
    ·simp only [VF] at *;rw [dD];exact ((VH.1 hw.pw).2.2 y (by simp) x (by simp)).2
   push_cast
   omega
def bW (a:Int):List RO->Int
 | []=>a
 | o :: l=>bW (a+o.len) l
theorem iB (a:Int) (l:List RO) (o:RO):bW a (l++[o])=bW a l+o.len:=by
 induction l generalizing a with
 | nil=>rfl
 | cons x l ih=>simp [bW,ih]
theorem fK (a:Int) (l:List RO) (o:RO):cz a (l++[o])=cz a l++[{ o with place:=bW a l }]:=by
 induction l generalizing a with
 | nil=>rfl
 | cons x l ih=>simp [cz,ih,bW]
theorem jq (l:List RO):bx (cz 0 l)=bW 0 l:=by
 rcases Vu l with rfl | ⟨m,x,rfl⟩
 ·rfl
 ·simp only [VF];rw [fK,dD,iB];rfl
theorem pr {words oops:Int}:∀ (l:List RO) (a:Int),WFO words oops l->(∀ o∈l,a<=o.place)->∀ x∈cz a l,∃ o∈l,x={ o with place:=x.place }∧x.place<=o.place
 | [],_,_,_,x,hx=>by cases hx
 | o :: l,a,h,pp,x,hx=>by
  rcases Us.1 hx with rfl | hx
  ·exact ⟨o,by simp,rfl,pp o (by simp)⟩
  ·have hp:=Vg.1 h.pw;obtain ⟨o',h1,h2,h3⟩:=pr l (a+o.len) ⟨fun y hy=>h.good y (by simp [hy]),hp.2⟩ (fun y hy=>by have:=(hp.1 y hy).2;have:=pp o (by simp);omega) x hx;exact ⟨o',by simp [h1],h2,h3⟩
structure KeepSt (W0:Int->Int) (words oops:Int) (keep:RO->Bool) (done rest:List RO) (W T:Int->Int) (low:Int):Prop where
 wf:WFO words oops (done++rest)
 regK:∀ x∈cz 0 (done.filter keep),∃ o∈done,x={ o with place:=x.place }∧∀ i,0<=i->i<o.len->W (x.place+i)=W0 (o.place+i)
 regR:∀ o∈rest,∀ i,0<=i->i<o.len->W (o.place+i)=W0 (o.place+i)
 tab:∀ k,0<=k->k<=oops->T k=match aG (cz 0 (done.filter keep)++rest) k with
  | some x=>x.place
  | none=>-1
 low1:1<=low
 low2:low<=oops+1
 low3:∀ k,1<=k->k<low->aG (cz 0 (done.filter keep)++rest) k≠none
section
variable {W0:Int->Int}{words oops:Int}{keep:RO->Bool}{done rest:List RO}{o:RO}{W T:Int->Int}{low:Int}
theorem KeepSt.wfd (h:KeepSt W0 words oops keep done rest W T low):WFO words oops (done.filter keep) :=
 WFO.filter ⟨fun x hx=>h.wf.good x (by simp [hx]),(VH.1 h.wf.pw).1⟩ keep
theorem KeepSt.ends (h:KeepSt W0 words oops keep done (o :: rest) W T low):0<=bW 0 (done.filter keep)∧bW 0 (done.filter keep)<=o.place∧(∀ x∈cz 0 (done.filter keep),0<=x.place∧x.place+x.len<=bW 0 (done.filter keep)∧x.oop≠o.oop)∧∀ y∈rest,o.place+o.len<=y.place∧y.oop≠o.oop:=by
 have KQ:∀ x∈done.filter keep,(0:Int)<=x.place:=fun x hx=>(h.wfd.good x hx).pl;have hs:=pQ _ 0 h.wfd (Vo _) KQ;have hb:0<=bx (cz 0 (done.filter keep)):=by
  have:=mj hs.1;omega
 have JX:=VH.1 h.wf.pw;rw [jq] at hb;refine ⟨hb,?_,fun x hx=>?_,fun y hy=>?_⟩
 ·rcases Vu (done.filter keep) with he | ⟨m,x,he⟩
  ·rw [he];exact (h.wf.good o (by simp)).pl
  ·simp only [VF] at he;have hx:x∈done.filter keep:=by rw [he];simp
   have h1:({ x with place:=bW 0 m }:RO)∈cz 0 (done.filter keep):=by rw [he,fK];simp
   obtain ⟨o',g1,g2,g3⟩:=pr _ 0 h.wfd KQ _ h1;have Sr:=JX.2.2 x (U6.1 hx).1 o (by simp);have Jt:o'.oop=x.oop:=(congrArg RO.oop g2).symm;have Ss:o'=x:=by
    rcases wg h.wfd.pw g1 hx with e | e | e
    ·exact e
    ·exact absurd Jt e.1
    ·exact absurd Jt.symm e.1
   have g4:bW 0 m<=x.place:=Ss ▸ g3
   have:=Sr.2;rw [he,iB];omega
 ·have h1:=hs.2 x hx;have h2:=lF hs.1 hx;rw [jq] at h2;obtain ⟨o',g1,g2,_⟩:=gn hx;refine ⟨h1,h2,?_⟩;rw [g2];exact (JX.2.2 o' (U6.1 g1).1 o (by simp)).1
 ·have:=(Vg.1 JX.2.1).1 y hy;exact ⟨this.2,fun e=>this.1 e.symm⟩
theorem KeepSt.wf' (h:KeepSt W0 words oops keep done (o :: rest) W T low):WFO words oops ((done++[o])++rest):=by
 have:=h.wf;simpa using this
theorem KeepSt.stay (h:KeepSt W0 words oops keep done (o :: rest) W T low) (hk:keep o=true){W':Int->Int}
  (hW:∀ i,W' i=if bW 0 (done.filter keep)<=i∧i<bW 0 (done.filter keep)+o.len then W (i-bW 0 (done.filter keep)+o.place) else W i) :
  KeepSt W0 words oops keep (done++[o]) rest W' (upd T o.oop (bW 0 (done.filter keep))) low:=by
 obtain ⟨e1,e2,e3,e4⟩:=h.ends;have hf:(done++[o]).filter keep=done.filter keep++[o]:=by simp [hk]
 have KT:∀ k,aG (cz 0 ((done++[o]).filter keep)++rest) k=if k=o.oop then some { o with place:=bW 0 (done.filter keep) } else aG (cz 0 (done.filter keep)++(o :: rest)) k:=by
  intro k;rw [hf,fK,im,im,im,jA,jA];by_cases sd:k=o.oop
  ·subst sd;have hn:aG (cz 0 (done.filter keep)) o.oop=none:=eO.2 fun x hx=>(e3 x hx).2.2;rw [hn];simp
  ·have Lx:¬ o.oop=k:=fun e=>sd e.symm;rw [Uq sd,Uq Lx,Uq Lx]
   have:aG [] k=none:=rfl;rw [this,Option.or_none]
 have hg:=h.wf.good o (by simp);refine { wf:=h.wf',regK:=fun x hx=>?_,regR:=fun y hy i h0 h1=>?_,tab:=fun k h0 h1=>?_,low1:=h.low1,low2:=h.low2,low3:=fun k h0 h1=>?_ }
 ·rw [hf,fK] at hx;rcases Uz.1 hx with hx | hx
  ·obtain ⟨a,ha,Ns,Ml⟩:=h.regK x hx;have ai:x.len=a.len:=by rw [Ns];rfl
   refine ⟨a,by simp [ha],Ns,fun i h0 h1=>?_⟩;rw [hW,Uq (by have:=(e3 x hx).2.1;omega)];exact Ml i h0 h1
  ·simp at hx;subst hx;refine ⟨o,by simp,rfl,fun i h0 h1=>?_⟩;rw [hW,Ur (by simp only;omega),show bW 0 (done.filter keep)+i-bW 0 (done.filter keep)+o.place=o.place+i by omega];exact h.regR o (by simp) i h0 h1
 ·rw [hW,Uq (by have:=(e4 y hy).1;omega)];exact h.regR y (by simp [hy]) i h0 h1
 ·rw [KT];unfold upd;by_cases hk:k=o.oop
  ·rw [Ur hk,Ur hk]
  ·rw [Uq hk,Uq hk];exact h.tab k h0 h1
 ·rw [KT];by_cases hk:k=o.oop
  ·rw [Ur hk];simp
  ·rw [Uq hk];exact h.low3 k h0 h1
theorem KeepSt.drop (h:KeepSt W0 words oops keep done (o :: rest) W T low) (hk:keep o=false) :
  KeepSt W0 words oops keep (done++[o]) rest (upd W o.place 0) (upd T o.oop (-1)) (if o.oop<low then o.oop else low):=by
 obtain ⟨e1,e2,e3,e4⟩:=h.ends;have hf:(done++[o]).filter keep=done.filter keep:=by simp [hk]
 have Nt:aG (cz 0 (done.filter keep)) o.oop=none:=eO.2 fun x hx=>(e3 x hx).2.2;have Fd:aG rest o.oop=none:=eO.2 fun x hx=>(e4 x hx).2;have KT:∀ k,aG (cz 0 ((done++[o]).filter keep)++rest) k=if k=o.oop then none else aG (cz 0 (done.filter keep)++(o :: rest)) k:=by
  intro k;rw [hf,im,im,jA];by_cases sd:k=o.oop
  ·subst sd;rw [Nt,Fd];simp
  ·have Lx:¬ o.oop=k:=fun e=>sd e.symm;rw [Uq sd,Uq Lx]
 have hg:=h.wf.good o (by simp);have hlow1:=h.low1;have hlow2:=h.low2;have CO:=hg.oop1;refine { wf:=h.wf',regK:=fun x hx=>?_,regR:=fun y hy i h0 h1=>?_,tab:=fun k h0 h1=>?_,low1:=by split <;> omega,low2:=by split <;> omega,low3:=fun k h0 h1=>?_ }
 ·rw [hf] at hx;obtain ⟨a,ha,Ns,Ml⟩:=h.regK x hx;have ai:x.len=a.len:=by rw [Ns];rfl
  refine ⟨a,by simp [ha],Ns,fun i h0 h1=>?_⟩;rw [upd,Uq (by have:=(e3 x hx).2.1;omega)];exact Ml i h0 h1
 ·rw [upd,Uq (by have:=(e4 y hy).1;have:=o.len_pos;omega)];exact h.regR y (by simp [hy]) i h0 h1
 ·rw [KT];unfold upd;by_cases hk:k=o.oop
  ·rw [Ur hk,Ur hk]
  ·rw [Uq hk,Uq hk];exact h.tab k h0 h1
 ·rw [KT];have aa:k<o.oop∨k≠o.oop∧k<low:=by
   by_cases hc:o.oop<low
   ·rw [Ur hc] at h1;exact .inl h1
   ·rw [Uq hc] at h1;exact .inl (by omega)
  have JD:k<low:=by
   by_cases hc:o.oop<low
   ·rw [Ur hc] at h1;omega
   ·rw [Uq hc] at h1;exact h1
  rw [Uq (by rcases aa with h | h <;> omega)];exact h.low3 k h0 JD
end
end Kw
namespace Go.Proofs.YtgjfejoohojokaaGreatDoor
open Kw
def ja (words oops:Int):RH:=⟨words,oops,0,0,0,[]⟩
theorem Af {words oops:Int} (h0:0<=words) (h1:words<=1048576) (h2:0<=oops) (h3:oops<=65536):WFH (ja words oops) :=
 ⟨h0,h1,h2,h3,by simp [ja],by simp [ja],⟨by simp [ja],by simp [ja]⟩⟩
section
variable {H:ag}{hb wb tb bb nw nt:Nat}{p:PV}{W T B:Int->Int}{low:Int}{r:RH}{Q:QT}
theorem y7 {words oops:Int} (hk:dT H) (cp:¬ (0<=words∧words<=1048576∧0<=oops∧oops<=65536)->Q (.tuple #[.pointer none,ac 1]) H)
  (h:(0<=words∧words<=1048576∧0<=oops∧oops<=65536)->∀ hb F H',dF H' hb F (ja words oops)->Fr [] H H'->(∀ b∈F,H.size<=b)->Q (.tuple #[Kj hb,ac 0]) H'):ae PP 139 #[ac words,ac oops] Q H:=by
 apply C8;dsimp only [aK,bJ,ao,bv,aH,bq,ac,bu,Hl,cX,au,ck,aN,am,aJ,cC,ax,bP,bU,bd];refine o9 ⟨_,rfl,?_⟩;by_cases h1:0<=words∧words<=1048576
 ·simp only [ah,UK,Ut,Uw,UA,bh,aW,bC,bE,bi,bF,bz,aX,bB,bA,bg,bD,UT,UU,UV,aC,UE,UC,aM,aI,aU,UB,UG,bI,bK,h1,decide_true];refine o9 ⟨_,rfl,?_⟩;by_cases h2:0<=oops∧oops<=65536
  ·simp only [ah,UK,Ut,Uw,UA,bh,aW,bC,bE,bi,bF,bz,aX,bB,bA,bg,bD,UT,UU,UV,aC,UE,UC,aM,aI,aU,UB,UG,bI,bK,h2,decide_true];have e1:IntKind.wrap .i64 (oops+1)=oops+1:=az (by omega) (by omega);have hg:aS<H.size:=by
    have h0:=hk.1;unfold aq at h0;rcases Vp aS H.size with h1 | h1
    ·exact h1
    ·simp only [Ve h1] at h0;cases h0
   have ic:bj PP 30=some (1,8,some (ac 0)):=by kernel_rfl
   have us:bj PP 25=some (1,8,some (ac 0)):=by kernel_rfl
   simp only [e1];have mk:∀ (T:TypeId) (n:Int) (K:Option Addr->Nat->Nat->ag->Prop) (G:ag),bj PP T=some (1,8,some (ac 0))->0<=n->n<=1048576 ->
     (∀ e,K (some ⟨G.size,0,none⟩) n.toNat n.toNat (G.push (.cells (Array.replicate n.toNat (ac 0)) e))) ->
     cu PP (Instr.makeSlice T (ac n) (ac n)) (fun v H3=>∃ a:Option Addr,∃ l:Nat,∃ c:Nat,v=.slice a l c∧K a l c H3) G :=
    fun T n K G hT g0 g1 hK=>eA hT rfl g0 (Vo _) (by omega) (by decide) fun e=>⟨_,_,_,rfl,hK e⟩
   have fin:∀ (G:ag) (wb tb bb:Nat) (e:TypeId),Fr [] H G->eM G wb words.toNat (fun _=>0)->eM G tb (oops+1).toNat (fun _=>0)->eM G bb (oops+1).toNat (fun _=>0)->wb≠tb->wb≠bb->tb≠bb->H.size<=wb->H.size<=tb->H.size<=bb ->
     ∃ hb wb' tb' bb',[Value.pointer (some ⟨G.size,0,none⟩)]=[Kj hb]∧Fr [] H (G.push (.cells #[.slice (some ⟨wb,0,none⟩) words.toNat words.toNat,.slice (some ⟨tb,0,none⟩) (oops+1).toNat (oops+1).toNat,.slice (some ⟨bb,0,none⟩) (oops+1).toNat (oops+1).toNat,ac 0,ac 0,ac 1,ac 0,ac 0,ac 0] e))∧H.size<=hb∧H.size<=wb'∧H.size<=tb'∧H.size<=bb' ∧
      Raw (G.push (.cells #[.slice (some ⟨wb,0,none⟩) words.toNat words.toNat,.slice (some ⟨tb,0,none⟩) (oops+1).toNat (oops+1).toNat,.slice (some ⟨bb,0,none⟩) (oops+1).toNat (oops+1).toNat,ac 0,ac 0,ac 1,ac 0,ac 0,ac 0] e)) hb wb' tb' bb' words.toNat (oops+1).toNat ⟨fun _=>0,fun _=>0,fun _=>0,0,0,1,0,0,0⟩:=by
    intro G wb tb bb e hf m1 m2 m3 n1 n2 n3 g1 g2 g3
    have:=m1.lt
    have:=m2.lt
    have:=m3.lt
    have:=hf.1;have nd:[G.size,wb,tb,bb,aS].Nodup:=by
     simp only [Vl,Us,UO,U5,Vt,List.nodup_nil,UV,not_false_eq_true];exact ⟨⟨by omega,by omega,by omega,by omega⟩,⟨n1,n2,by omega⟩,⟨n3,by omega⟩,by omega⟩
    exact ⟨G.size,wb,tb,bb,rfl,hf.more,hf.1,g1,g2,g3,⟨bH.new _ _ _,m1.push _,m2.push _,m3.push _,nd⟩⟩
   have JF:∀ (G:ag) (o:Obj),Fr [] H G->Fr [] H (G.push o):=fun G o hG=>hG.more;have hsz:∀ (G:ag) (o:Obj),(G.push o).size=G.size+1:=fun G o=>by simp
   refine ⟨fun w H'=>∃ hb wb tb bb,w=[Kj hb]∧Fr [] H H'∧H.size<=hb∧H.size<=wb∧H.size<=tb∧H.size<=bb∧Raw H' hb wb tb bb words.toNat (oops+1).toNat ⟨fun _=>0,fun _=>0,fun _=>0,0,0,1,0,0,0⟩,?A,?B,?C,?D⟩
   case A =>
    refine mk 30 words _ H ic h1.1 h1.2 fun e=>?_;refine ⟨mk 25 (oops+1) _ _ us (by omega) (by omega) fun e2=>?_,mk 25 (oops+1) _ _ us (by omega) (by omega) fun e2=>?_⟩
    ·refine mk 25 (oops+1) _ _ us (by omega) (by omega) fun e3=>?_;exact fin _ _ _ _ _ (((Fr.refl _ _).more).more.more) (((eM.new _ _ _).push _).push _) ((eM.new _ _ _).push _) (eM.new _ _ _) (by (try simp only [UL]);omega) (by (try simp only [UL]);omega) (by (try simp only [UL]);omega) (by (try simp only [UL]);omega) (by (try simp only [UL]);omega) (by (try simp only [UL]);omega)
    ·refine mk 25 (oops+1) _ _ us (by omega) (by omega) fun e3=>?_;exact fin _ _ _ _ _ (((Fr.refl _ _).more).more.more) (((eM.new _ _ _).push _).push _) (eM.new _ _ _) ((eM.new _ _ _).push _) (by (try simp only [UL]);omega) (by (try simp only [UL]);omega) (by (try simp only [UL]);omega) (by (try simp only [UL]);omega) (by (try simp only [UL]);omega) (by (try simp only [UL]);omega)
   case B =>
    refine mk 25 (oops+1) _ H us (by omega) (by omega) fun e=>?_;refine ⟨mk 30 words _ _ ic h1.1 h1.2 fun e2=>?_,mk 25 (oops+1) _ _ us (by omega) (by omega) fun e2=>?_⟩
    ·refine mk 25 (oops+1) _ _ us (by omega) (by omega) fun e3=>?_;exact fin _ _ _ _ _ (((Fr.refl _ _).more).more.more) ((eM.new _ _ _).push _) (((eM.new _ _ _).push _).push _) (eM.new _ _ _) (by (try simp only [UL]);omega) (by (try simp only [UL]);omega) (by (try simp only [UL]);omega) (by (try simp only [UL]);omega) (by (try simp only [UL]);omega) (by (try simp only [UL]);omega)
    ·refine mk 30 words _ _ ic h1.1 h1.2 fun e3=>?_;exact fin _ _ _ _ _ (((Fr.refl _ _).more).more.more) (eM.new _ _ _) (((eM.new _ _ _).push _).push _) ((eM.new _ _ _).push _) (by (try simp only [UL]);omega) (by (try simp only [UL]);omega) (by (try simp only [UL]);omega) (by (try simp only [UL]);omega) (by (try simp only [UL]);omega) (by (try simp only [UL]);omega)
   case C =>
    refine mk 25 (oops+1) _ H us (by omega) (by omega) fun e=>?_;refine ⟨mk 30 words _ _ ic h1.1 h1.2 fun e2=>?_,mk 25 (oops+1) _ _ us (by omega) (by omega) fun e2=>?_⟩
    ·refine mk 25 (oops+1) _ _ us (by omega) (by omega) fun e3=>?_;exact fin _ _ _ _ _ (((Fr.refl _ _).more).more.more) ((eM.new _ _ _).push _) (eM.new _ _ _) (((eM.new _ _ _).push _).push _) (by (try simp only [UL]);omega) (by (try simp only [UL]);omega) (by (try simp only [UL]);omega) (by (try simp only [UL]);omega) (by (try simp only [UL]);omega) (by (try simp only [UL]);omega)
    ·refine mk 30 words _ _ ic h1.1 h1.2 fun e3=>?_;exact fin _ _ _ _ _ (((Fr.refl _ _).more).more.more) (eM.new _ _ _) ((eM.new _ _ _).push _) (((eM.new _ _ _).push _).push _) (by (try simp only [UL]);omega) (by (try simp only [UL]);omega) (by (try simp only [UL]);omega) (by (try simp only [UL]);omega) (by (try simp only [UL]);omega) (by (try simp only [UL]);omega)
   case D =>
    rintro w H1 ⟨hb,wb,tb,bb,rfl,hf,g1,g2,g3,g4,hr⟩ _;refine ⟨_,rfl,?_⟩;simp only [ah,UK,Ut,Uw,UA,bh,aW,bC,bE,bi,bF,bz,aX,bB,bA,bg,bD,UT,UU,UV,aC,UE,UC,aM,aI,aU,UB,UG,bI,bK,hr.c1];refine ⟨fun w H'=>∃ i:Int,w=[ac i]∧0<=i∧i<=oops+1∧Fr [] H H'∧Raw H' hb wb tb bb words.toNat (oops+1).toNat ⟨fun _=>0,fun k=>if k<i then -1 else 0,fun _=>0,0,0,1,0,0,0⟩,
     fun w _=>match w with
      | [.int _ i]=>(oops+1-i).toNat
      | _=>0,⟨0,rfl,by omega,by omega,hf,?_⟩,?_⟩
    ·refine ⟨hr.hd,hr.mw,hr.mt.congr fun i h0 _=>?_,hr.mb,hr.d⟩;show (0:Int)=if i<0 then -1 else 0;rw [Uq (by omega)]
    ·rintro w H2 ⟨i,rfl,KO,Ng,bw,Lf⟩ _;refine ⟨i,rfl,?_⟩;split
     ·rename_i hi;simp only [ah,UK,Ut,Uw,UA,bh,aW,bC,bE,bi,bF,bz,aX,bB,bA,bg,bD,UT,UU,UV,aC,UE,UC,aM,aI,aU,UB,UG,bI,bK,Lf.c1];rw [az (n:=i+1) (by omega) (by omega)];have l5:=Lf.setT (i:=i) KO (-1);refine ⟨by omega,by omega,Lf.mt.wr KO (by omega),⟨i+1,rfl,by omega,by omega,?_,?_⟩,by simp;omega⟩
      ·exact ⟨by rw [bR];exact bw.1,fun b b8 hn=>by rw [cK (by simp;omega)];exact bw.2 b b8 hn⟩
      ·refine ⟨l5.hd,l5.mw,l5.mt.congr fun j h0 _=>?_,l5.mb,l5.d⟩;show upd (fun k=>if k<i then -1 else 0) i (-1) j=if j<i+1 then -1 else 0;unfold upd;by_cases hj:j=i
       ·rw [Ur hj,Ur (by omega)]
       ·rw [Uq hj];show (if j<i then (-1:Int) else 0)=_;by_cases sc:j<i
        ·rw [Ur sc,Ur (by omega)]
        ·rw [Uq sc,Uq (by omega)]
     ·rename_i hi;have KU:i=oops+1:=by omega
      subst KU;have hw:=Af h1.1 h1.2 h2.1 h2.2;refine h (by omega) hb [hb,wb,tb,bb] H2 ⟨wb,tb,bb,_,_,_,_,rfl,Lf.phs (hk.fr bw (by simp)) hw ?_ rfl rfl rfl rfl rfl rfl rfl⟩ bw (by simp;omega);refine { tab:=fun k h0 h1=>?_,bor:=by simp [ja],cls:=by simp [ja],shp:=by simp [ja],wrd:=by simp [ja],byt:=by simp [ja],byr:=by simp [ja],low1:=by simp,low2:=by simp [ja];omega,low3:=fun k h0 h1=>by simp at h1;omega }
      have:k<=oops:=h1;show (if k<oops+1 then (-1:Int) else 0)=_;rw [Ur (by omega)];rfl
  ·simp only [ah,UK,Ut,Uw,UA,bh,aW,bC,bE,bi,bF,bz,aX,bB,bA,bg,bD,UT,UU,UV,aC,UE,UC,aM,aI,aU,UB,UG,bI,bK,h2,decide_false];exact cp (by omega)
 ·simp only [ah,UK,Ut,Uw,UA,bh,aW,bC,bE,bi,bF,bz,aX,bB,bA,bg,bD,UT,UU,UV,aC,UE,UC,aM,aI,aU,UB,UG,bI,bK,h1,decide_false];exact cp (by omega)
theorem Ij (hR:PHs H hb wb tb bb W T B low r) (h:∀ a l c F H',cZ 1 H' a l c (av r.all) F->Fr [] H H'->(∀ b∈F,H.size<=b)->F≠[]->Q (.slice a l c) H'):ae PP 283 #[Kj hb] Q H:=by
 apply BJ;dsimp only [aK,bJ,ao,bv,aB,aH,bq,ac,bu,jO,au,ck,aN,am,aJ,cC,ax,bd];have OR:=hR.wf.o0;have CO:=hR.wf.o1;have us:bj PP 25=some (1,8,some (ac 0)):=by kernel_rfl
 refine pC hR ⟨_,rfl,?_⟩;simp only [ah,UK,Ut,Uw,UA,bh,aW,bC,bE,bi,bF,bz,aX,bB,bA,bg,bD,UT,UU,UV,aC,UE,UC,aM,aI,aU,UB,UG,bI,bK,hR.c3];have hcount:(r.objs.length:Int)<=1048576:=by
  have h1:=mj hR.wf.objs;have h2:=fF hR.wf.objs hR.wf.w0;have h3:=hR.wf.w1;omega
 refine eA us rfl (Vo _) (by omega) (by omega) (by decide) fun e=>?_;have hE:Fr [] H (H.push (.cells (Array.replicate (r.objs.length:Int).toNat (ac 0)) e)):=Fr.push _ _ _;have na:aq (H.push (.cells (Array.replicate (r.objs.length:Int).toNat (ac 0)) e)) ⟨hb,1,none⟩=some (.slice (some ⟨tb,0,none⟩) (r.oops+1).toNat (r.oops+1).toNat):=(iO hR.hd.lt).trans hR.c1;simp only [ah,UK,Ut,Uw,UA,bh,aW,bC,bE,bi,bF,bz,aX,bB,bA,bg,bD,UT,UU,UV,aC,UE,UC,aM,aI,aU,UB,UG,bI,bK,na];refine ⟨fun w H'=>∃ a l c F,∃ i:Int,w=[.slice a l c,ac i]∧0<=i∧i<=r.oops+1∧cZ 1 H' a l c (av (r.upto i.toNat)) F∧Fr [] H H'∧(∀ b∈F,H.size<=b)∧F≠[],fun w _=>match w with
  | [_,.int _ i]=>(r.oops+1-i).toNat
  | _=>0,⟨_,_,_,_,0,rfl,by omega,by omega,cZ.newMem _ _ _,hE,by simp,by simp⟩,?_⟩
 rintro w H1 ⟨a,l,c,F,i,rfl,KO,Ng,ho,hf,hF,b9⟩ _;refine ⟨a,l,c,i,rfl,?_⟩;have Pn:=hR.mt.fr hf (by simp);have hl:=ho.len;simp only [av,UZ] at hl;have Rv:=r.upto_len i.toNat;split
 ·rename_i hi;simp only [ah,UK,Ut,Uw,UA,bh,aW,bC,bE,bi,bF,bz,aX,bB,bA,bg,bD,UT,UU,UV,aC,UE,UC,aM,aI,aU,UB,UG,bI,bK,Pn.cell KO (by omega)];rw [az (n:=i+1) (by omega) (by omega)];have ht:=hR.sim.tab i KO (by omega);have Nu:=r.upto_succ i.toNat;have ei:(i.toNat:Int)=i:=Vh KO;have e1:(i+1).toNat=i.toNat+1:=by omega
  rw [ei] at Nu;refine ⟨by omega,by omega,?_⟩;split
  ·rename_i hp;have hs:(aG r.objs i).isSome=true:=by
    cases ho:aG r.objs i with
    | none=>rw [ht,ho] at hp;simp at hp
    | some o=>rfl
   refine dl us rfl (by kernel_rfl) ho rfl (by simp [ge]) (by omega) (by decide) (by decide) fun a' c' F' H2 h1 h2 h3=>⟨_,_,_,rfl,?_⟩;have r9:=Up.fresh hf h2 hF;refine ⟨⟨_,_,_,F',i+1,rfl,by omega,by omega,?_,r9.1,r9.2,fun e=>by subst e;rcases h1.2.2 with ⟨_,hc,_⟩ | ⟨b,cs,_,Su,_⟩;(have:=h1.2.1;omega);cases Su⟩,by simp;omega⟩;rw [e1,Nu,Ur hs,cT];exact h1
  ·rename_i hp;have hs:¬ (aG r.objs i).isSome=true:=by
    cases ho:aG r.objs i with
    | none=>simp
    | some o =>
     rw [ht,ho] at hp;exact absurd (hR.in_ (aD ho).1).1 hp
   refine ⟨⟨_,_,_,F,i+1,rfl,by omega,by omega,?_,hf,hF,b9⟩,by simp;omega⟩;rw [e1,Nu,Uq hs,VJ];exact ho
 ·rename_i hi;have e:i=r.oops+1:=by omega
  subst e;exact h a l c F H1 ho hf hF b9
end
section
variable {H:ag}{hb wb tb bb nw nt:Nat}{p:PV}{W T B:Int->Int}{low:Int}{r:RH}{Q:QT}
theorem Fy (hR:Raw H hb wb tb bb nw nt p){k:Int} (h0:0<=k) (h1:k<nt) (h2:0<=p.T k) (h3:p.T k<nw) (h4:0<=p.count) (h5:p.count<=1000000000)
  (h:∀ H',Raw H' hb wb tb bb nw nt { p with W:=upd p.W (p.T k) 0,T:=upd p.T k (-1),low:=if k<p.low then k else p.low,count:=p.count-1 }->Fr [hb,wb,tb,bb] H H'->Q (.tuple #[]) H'):ae PP 169 #[Kj hb,ac k] Q H:=by
 apply Bn;dsimp only [aB,aH,bq,ac,bu,aN,bP,bU,bd];have e1:IntKind.wrap .i64 (p.count-1)=p.count-1:=az (by omega) (by omega);have r1:=hR.setW (i:=p.T k) h2 0;have r2:=r1.setT (i:=k) h0 (-1);have r3:=r2.set5 (if k<p.low then k else p.low);have r4:=r3.set3 (p.count-1);simp only [ah,UK,Ut,Uw,UA,bh,aW,bC,bE,bi,bF,bz,aX,bB,bA,bg,bD,UT,UU,UV,aC,UE,UC,aM,aI,aU,UB,UG,bI,bK,hR.c0,hR.c1,hR.tabc h0 h1,r1.c1,r2.c5,r3.c3,e1];refine ⟨h0,h1,h2,h3,hR.mw.wr h2 h3,h0,h1,r1.mt.wr h0 h1,r2.wrh (by decide),r3.wrh (by decide),h _ r4 ?_⟩;exact (((Fr.refl _ _).step (by simp)).step (by simp)).step (by simp) |>.step (by simp)
theorem BP (hw:WFH r) (hs:SimH W T B low r) (keep:RO->Bool):KeepSt W r.words r.oops keep [] r.objs W T low :=
 { wf:=by simpa using hw.objs,regK:=by simp [cz],regR:=fun _ _ _ _ _=>rfl,tab:=fun k h0 h1=>by rw [hs.tab k h0 h1];rfl,low1:=hs.low1,low2:=hs.low2,low3:=fun k h0 h1=>hs.low3 k h0 h1 }
theorem Cv (hs:SimH W T B low r){keep:RO->Bool}{W' T':Int->Int}{low' tn:Int} (h:KeepSt W r.words r.oops keep r.objs [] W' T' low') :
  SimH W' T' B low' { r with objs:=cz 0 (r.objs.filter keep),turn:=tn }:=by
 have key:∀ x∈cz 0 (r.objs.filter keep),∃ o∈r.objs,x.oop=o.oop∧x.fmt=o.fmt∧x.born=o.born∧x.cls=o.cls∧x.slots=o.slots∧x.len=o.len∧∀ i,0<=i->i<o.len->W' (x.place+i)=W (o.place+i):=by
  intro x hx;obtain ⟨o,h1,h2,h3⟩:=h.regK x hx;exact ⟨o,h1,by rw [h2],by rw [h2],by rw [h2],by rw [h2],by rw [h2],by rw [h2];rfl,h3⟩
 have e:cz 0 (r.objs.filter keep)++[]=cz 0 (r.objs.filter keep):=VJ _;refine { tab:=fun k h0 h1=>by have:=h.tab k h0 h1;rw [e] at this;exact this,bor:=fun x hx=>?_,cls:=fun x hx=>?_,shp:=fun x hx=>?_,wrd:=fun x hx hf j hj=>?_,byt:=fun x hx hf j hj=>?_,byr:=fun x hx hf j h0 h1=>?_,low1:=h.low1,low2:=h.low2,low3:=fun k h0 h1=>by have:=h.low3 k h0 h1;rw [e] at this;exact this }
 all_goals obtain ⟨o,ho,k1,k2,k3,k4,k5,k6,k7⟩:=key x hx
 ·rw [k1,k3];exact hs.bor o ho
 ·have:=k7 0 (Vo _) (by have:=o.len_pos;omega);rw [Int.add_zero,Int.add_zero] at this;rw [this,k4];exact hs.cls o ho
 ·rw [k7 1 (by omega) (by have:=o.len_pos;omega),k5,k2];exact hs.shp o ho
 ·have D0:o.len=2+(o.slots.length:Int):=by unfold RO.len lenOf;rw [Uq (by omega)]
  rw [k5] at hj ⊢;rw [WS,k7 (2+(j:Int)) (by omega) (by omega),←WS];exact hs.wrd o ho (k2 ▸ hf) j hj
 ·have ca:o.fmt=1:=k2 ▸ hf;have D0:o.len=2+((o.slots.length:Int)+3) / 4:=by unfold RO.len lenOf;rw [Ur ca]
  rw [k5] at hj ⊢;rw [WS,k7 (2+((j / 4:Nat):Int)) (by omega) (by omega),←WS];exact hs.byt o ho ca j hj
 ·have ca:o.fmt=1:=k2 ▸ hf
  have:=k7 (j-x.place) (by omega) (by omega);rw [show x.place+(j-x.place)=j by omega] at this;rw [this];exact hs.byr o ho ca _ (by omega) (by omega)
theorem Ax (hR:Raw H hb wb tb bb nw nt p){pl n f:Int} (h0:0<=pl) (h1:pl+1<nw) (hw:nw<=1048576) (he:p.W (pl+1)=2*n+f) (hf:f=0∨f=1) (h:Q (.tuple #[ac n,ac f]) H):ae PP 117 #[Kj hb,ac pl] Q H:=by
 apply xI;dsimp only [aF,aB,aH,bq,bu,aN,bd];rw [az (n:=pl+1) (by omega) (by omega)];simp only [ah,UK,Ut,Uw,UA,bh,aW,bC,bE,bi,bF,bz,aX,bB,bA,bg,bD,UT,UU,UV,aC,UE,UC,aM,aI,aU,UB,UG,bI,bK,hR.c0,hR.word (i:=pl+1) (by omega) (by omega)];refine ⟨by omega,by omega,?_⟩;rw [he,DT,xA];have e1:(2*n+f) / 2=n:=by omega
 have e2:(2*n+f) % 2=f:=by omega
 rw [e1,e2];exact h
theorem uk (hR:Raw H hb wb tb bb nw nt p){pl n f:Int} (h0:0<=pl) (h1:pl+1<nw) (hw:nw<=1048576) (he:p.W (pl+1)=2*n+f) (hf:f=0∨f=1) (hn:0<=n) (Fd:n<=8192) (h:Q (ac (lenOf n f)) H):ae PP 170 #[Kj hb,ac pl] Q H:=by
 apply Cy;dsimp only [aT,ak,ac,am];exact Ax hR h0 h1 hw he hf ⟨_,_,rfl,lZ hn (by omega) ⟨_,rfl,h⟩⟩
def sX (hb:Nat) (r:RH):Prop:=∀ {H:ag}{wb tb bb:Nat}{W T B:Int->Int}{low:Int}{Q:QT},PHs H hb wb tb bb W T B low r->(∀ a l c F H',cZ 1 H' a l c (av (r.objs.map (·.oop))) F->Fr [] H H'->(∀ b∈F,H.size<=b)->Q (.slice a l c) H')->ae PP 168 #[Kj hb] Q H
theorem Gj {F:aR} (hR:dF H hb F r) (Pz:sX hb r){a2:Option Addr}{l2 c2:Nat}{ks:List Int} (hk:Rd 1 H a2 l2 (av ks)) (hd:∀ p,a2=some p->p.block∉F) (HP:l2<=1099511627776)
  (h:∀ H',dF H' hb F (r.keep ks).2->Fr F H H'->Q (rI (r.keep ks).1) H'):ae PP 83 #[Kj hb,.slice a2 l2 c2] Q H:=by
 have Gl:=hR;obtain ⟨wb,tb,bb,W,T,B,low,rfl,hR⟩:=hR;apply Gq;dsimp only [mH,bJ,aT,dU,ao,ak,gg,bv,aB,aH,bq,ac,bu,cX,ER,au,ck,aN,am,xU,cC,ax,bP,bU,bd];have eh:=hR.wf;have Sv:=eh.w0;have Rt:=eh.w1;have OR:=eh.o0;have CO:=eh.o1;have b9:=hR.raw.ne;have Pu:=fF eh.objs eh.w0;have PA:=mj eh.objs;have us:bj PP 25=some (1,8,some (ac 0)):=by kernel_rfl
 have ic:bj PP 30=some (1,8,some (ac 0)):=by kernel_rfl
 have JC:l2=ks.length:=by have:=hk.1;simpa [av] using this.symm
 refine pC hR ⟨_,rfl,?_⟩;simp only [ah,UK,Ut,Uw,UA,bh,aW,bC,bE,bi,bF,bz,aX,bB,bA,bg,bD,UT,UU,UV,aC,UE,UC,aM,aI,aU,UB,UG,bI,bK,hR.c1];refine eA us rfl (by omega) (Vo _) (by omega) (by decide) fun e=>?_;simp only [Uy];have Nv:∀ b∈[hb,wb,tb,bb],b<H.size:=Gl.lt;have MX:H.size∉[hb,wb,tb,bb]:=fun hm=>absurd (Nv _ hm) (by omega);simp only [ah,UK,Ut,Uw,UA,bh,aW,bC,bE,bi,bF,bz,aX,bB,bA,bg,bD,UT,UU,UV,aC,UE,UC,aM,aI,aU,UB,UG,bI,bK];refine ⟨fun w H'=>∃ i:Int,w=[ac i]∧0<=i∧i<=l2∧PHs H' hb wb tb bb W T B low r∧Fr [] H H'∧eM H' H.size (r.oops+1).toNat (fun k=>if k∈ks.take i.toNat then 1 else 0)∧∀ k∈ks.take i.toNat,aG r.objs k≠none,fun w _=>match w with
  | [.int _ i]=>(l2-i).toNat
  | _=>0,⟨0,rfl,by omega,by omega,?_,Fr.push _ _ _,?_,by simp⟩,?_⟩
 ·obtain ⟨wb',tb',bb',W',T',B',low',e1,h1⟩:=Gl.fr (Fr.push [] H (.cells (Array.replicate (r.oops+1).toNat (ac 0)) e)) (dB.nil_right _) (by simp);exact { hR with hd:=hR.hd.push _,mw:=hR.mw.push _,mt:=hR.mt.push _,mb:=hR.mb.push _,kinds:=h1.kinds }
 ·exact (eM.new _ _ _).congr fun k _ _=>by simp
 rintro w H1 ⟨i,rfl,KO,Ng,ow,be,w6,al⟩ _;refine ⟨i,rfl,?_⟩;split
 ·rename_i hi;have AT:=hk.fr' be (by simp);obtain ⟨pa,JX,aj,aa⟩:=AT.int KO (by omega);subst JX;simp only [ah,UK,Ut,Uw,UA,bh,aW,bC,bE,bi,bF,bz,aX,bB,bA,bg,bD,UT,UU,UV,aC,UE,UC,aM,aI,aU,UB,UG,bI,bK,aj];refine ⟨KO,hi,tm ow ?_⟩;have ix:ks.take (i+1).toNat=ks.take i.toNat++[ks.getD i.toNat 0]:=by
   rw [show (i+1).toNat=i.toNat+1 by omega,Vj];simp [aa]
  unfold qK;cases ho:aG r.objs (ks.getD i.toNat 0) with
  | none =>
   refine ⟨_,_,rfl,?_⟩;rw [Ur (by decide)];have hmem:ks.getD i.toNat 0∈ks:=by
    have:ks.getD i.toNat 0=ks[i.toNat]:=by simp [aa]
    rw [this];exact UQ aa
   have PB:r.keep ks=((0,0,20),r):=by unfold RH.keep;rw [Ur ⟨_,hmem,ho⟩]
   rw [PB] at h;exact h H1 ⟨wb,tb,bb,W,T,B,low,rfl,ow⟩ be.of_nil
  | some o =>
   have Ly:=eh.objs.good o (aD ho).1;have Jt:=(aD ho).2;have MY:=Ly.oop1;have Rw:=Ly.oop2;rw [Jt] at MY Rw;refine ⟨_,_,rfl,?_⟩;simp only [ah,UK,Ut,Uw,UA,bh,aW,bC,bE,bi,bF,bz,aX,bB,bA,bg,bD,UT,UU,UV,aC,UE,UC,aM,aI,aU,UB,UG,bI,bK,ne_eq,not_true_eq_false,if_false];rw [az (n:=i+1) (by omega) (by omega)];refine ⟨by omega,by omega,w6.wr (by omega) (by omega),⟨i+1,rfl,by omega,by omega,?_,?_,?_,?_⟩,by simp;omega⟩
   ·have Nw:Fr [H.size] H1 (bc H1 ⟨H.size,(ks.getD i.toNat 0).toNat,none⟩ (ac 1)):=Fr.set (by simp);have OS:∀ b∈[hb,wb,tb,bb],b∉[H.size]:=fun b b8 hn=>by simp at hn;subst hn;exact MX b8
    have PD:aS<H.size:=by
     have h0:=hR.kinds.1;unfold aq at h0;rcases Vp aS H.size with h1 | h1
     ·exact h1
     ·simp only [Ve h1] at h0;cases h0
    exact { ow with hd:=ow.hd.fr Nw (OS _ (by simp)),mw:=ow.mw.fr Nw (OS _ (by simp)),mt:=ow.mt.fr Nw (OS _ (by simp)),mb:=ow.mb.fr Nw (OS _ (by simp)),kinds:=ow.kinds.fr Nw (by simp;omega) }
   ·exact ⟨by rw [bR];exact be.1,fun b b8 hn=>by rw [cK (by simp;omega)];exact be.2 b b8 hn⟩
   ·refine (w6.set (i:=ks.getD i.toNat 0) (by omega) 1).congr fun k _ _=>?_;unfold upd;rw [ix];by_cases Jb:k=ks.getD i.toNat 0
    ·rw [Ur Jb,Ur (by simp [Jb])]
    ·rw [Uq Jb];simp only [Uz,Uu,Jb,U5]
   ·rw [ix];intro k MZ;rcases Uz.1 MZ with MZ | MZ
    ·exact al k MZ
    ·simp only [Uu] at MZ;rw [MZ,ho];simp
 ·rename_i hi;have lp:i.toNat=ks.length:=by omega
  have Nx:ks.take i.toNat=ks:=by rw [lp,Wc]
  rw [Nx] at w6 al;have PB:r.keep ks=(((r.objs.length:Int)-((r.keepO ks).length:Int),bx r.objs-bx (r.keepO ks),0),{ r with objs:=r.keepO ks,turn:=IntKind.wrap .i64 (r.turn+1) }):=by
   unfold RH.keep;rw [Uq];rintro ⟨k,AT,JR⟩;exact al k AT JR
  have KN:=fY eh ks;rw [PB] at h KN;simp only [ah,UK,Ut,Uw,UA,bh,aW,bC,bE,bi,bF,bz,aX,bB,bA,bg,bD,UT,UU,UV,aC,UE,UC,aM,aI,aU,UB,UG,bI,bK,ow.c3,ow.c4];refine Pz ow fun ab lb cb Fb H2 Lg bw Rx=>?_;simp only [ah,UK,Ut,Uw,UA,bh,aW,bC,bE,bi,bF,bz,aX,bB,bA,bg,bD,UT,UU,UV,aC,UE,UC,aM,aI,aU,UB,UG,bI,bK];have hkeepf:∃ kf:RO->Bool,kf=fun o=>decide (o.oop∈ks):=⟨_,rfl⟩;obtain ⟨kf,PG⟩:=hkeepf;have sd:r.keepO ks=cz 0 (r.objs.filter kf):=by rw [PG];rfl
  have hlb:lb=r.objs.length:=by have:=Lg.1;simpa [av] using this.symm
  have l9:Fr [] H H2:=be.trans bw;have PH:∀ b∈Fb,b∉[hb,wb,tb,bb]:=fun b b8 hn=>absurd (Nv b hn) (by have:=Rx b b8;have:=be.1;omega);have hsbF:H.size∉Fb:=fun hm=>by have:=Rx _ hm;have:=w6.lt;omega
  have ap:∀ {H'},Fr [hb,wb,tb,bb] H2 H'->Fr [hb,wb,tb,bb] H H':=fun hf=>(l9.of_nil).trans hf;refine ⟨fun w H'=>∃(j:Nat) (W' T':Int->Int) (low':Int),w=[ac (bW 0 ((r.objs.take j).filter kf)),ac j]∧j<=r.objs.length∧KeepSt W r.words r.oops kf (r.objs.take j) (r.objs.drop j) W' T' low' ∧
    Raw H' hb wb tb bb r.words.toNat (r.oops+1).toNat ⟨W',T',B,((cz 0 ((r.objs.take j).filter kf)).length:Int)+((r.objs.length-j:Nat):Int),bx r.objs,low',r.mark,r.born,r.turn⟩∧Fr [hb,wb,tb,bb] H2 H',fun w _=>match w with
   | [_,.int _ i]=>(r.objs.length-i).toNat
   | _=>0,⟨0,W,T,low,by simp [bW],by omega,?_,?_,Fr.refl _ _⟩,?_⟩
  ·have:=BP eh hR.sim kf;simpa using this
  ·have Lk:=ow.raw.keep bw (dB.nil_right _);simpa [cz] using Lk
  rintro w H3 ⟨j,W',T',low',rfl,hj,ci,l5,la⟩ _;refine ⟨_,_,rfl,?_⟩;have PI:=Lg.fr la PH;have Mi:eM H3 H.size (r.oops+1).toNat (fun k=>if k∈ks then 1 else 0):=(w6.fr bw (by simp)).fr la MX;split
  ·rename_i JY;have JY:j<r.objs.length:=by omega
   obtain ⟨pa,JX,aj,aa⟩:=(PI.rd).int (i:=(j:Int)) (by omega) (by omega);have ho:r.objs.drop j=r.objs[j] :: r.objs.drop (j+1):=Vr JY;have Lw:r.objs[j]∈r.objs:=UQ JY;have PJ:(r.objs.map (·.oop)).getD (j:Int).toNat 0=r.objs[j].oop:=by simp [JY]
   rw [PJ] at aj;have ix:r.objs.take (j+1)=r.objs.take j++[r.objs[j]]:=by rw [Vj];simp [JY]
   generalize hoe:r.objs[j]=o at *;have hg:=eh.objs.good o Lw;have MY:=hg.oop1;have Rw:=hg.oop2;have PN:=hg.pl;have hg4:=hg.fits;have hg5:=o.len_pos;have hg6:=hg.many;rw [ho] at ci;obtain ⟨e1,e2,e3,e4⟩:=ci.ends;have hT:T' o.oop=o.place:=by
    rw [ci.tab o.oop (by omega) (by omega),im,jA,Ur rfl];have hn:aG (cz 0 ((r.objs.take j).filter kf)) o.oop=none:=eO.2 fun x hx=>(e3 x hx).2.2;rw [hn];rfl
   have Sw:W' (o.place+1)=2*(o.slots.length:Int)+o.fmt:=by
    rw [ci.regR o (by simp) 1 (by omega) (by omega)];exact hR.sim.shp o Lw
   subst JX;have ej:IntKind.wrap .i64 ((j:Int)+1)=((j+1:Nat):Int):=by rw [az (by omega) (by omega)];omega
   simp only [ah,UK,Ut,Uw,UA,bh,aW,bC,bE,bi,bF,bz,aX,bB,bA,bg,bD,UT,UU,UV,aC,UE,UC,aM,aI,aU,UB,UG,bI,bK,aj,l5.c1,l5.tabc (i:=o.oop) (by omega) (by omega),Mi.cell (i:=o.oop) (by omega) (by omega),hT,ej];refine ⟨by omega,by omega,by omega,by omega,by omega,by omega,?_⟩;by_cases Jb:o.oop∈ks
   ·have dv:kf o=true:=by rw [PG];simpa using Jb
    simp only [Jb,if_true];rw [Uq (by decide)];have ai:o.len=lenOf o.slots.length o.fmt:=rfl;refine uk l5 PN (by omega) (by omega) Sw hg.fmt (by omega) (by omega) ?_;rw [←ai];have e5:IntKind.wrap .i64 (o.place+o.len)=o.place+o.len:=az (by omega) (by omega);have e6:IntKind.wrap .i64 (bW 0 ((r.objs.take j).filter kf)+o.len)=bW 0 ((r.objs.take j).filter kf)+o.len:=az (by omega) (by omega);simp only [ah,UK,Ut,Uw,UA,bh,aW,bC,bE,bi,bF,bz,aX,bB,bA,bg,bD,UT,UU,UV,aC,UE,UC,aM,aI,aU,UB,UG,bI,bK,l5.c0,e5,e6];refine ⟨by omega,by omega,by omega,by omega,by omega,by omega,?_⟩;refine uP ic l5.mw e1 (by omega) (by omega) PN (by omega) (by omega) (by omega) fun H4 Mg MV JS=>?_;have Hs:Raw H4 hb wb tb bb r.words.toNat (r.oops+1).toNat ⟨fun i=>if bW 0 ((r.objs.take j).filter kf)<=i∧i<bW 0 ((r.objs.take j).filter kf)+(((o.place+o.len).toNat-o.place.toNat:Nat):Int) then W' (i-bW 0 ((r.objs.take j).filter kf)+o.place) else W' i,T',B,((cz 0 ((r.objs.take j).filter kf)).length:Int)+((r.objs.length-j:Nat):Int),bx r.objs,low',r.mark,r.born,r.turn⟩:=⟨l5.hd.of_eq (JS _ b9.1.1),Mg,l5.mt.of_eq (JS _ b9.2.1.1.symm),l5.mb.of_eq (JS _ b9.2.1.2.1.symm),l5.d⟩;have lq:Fr [hb,wb,tb,bb] H2 H4:=la.trans ⟨by omega,fun b _ hn=>JS b fun e=>hn (by simp [e])⟩;simp only [ah,UK,Ut,Uw,UA,bh,aW,bC,bE,bi,bF,bz,aX,bB,bA,bg,bD,UT,UU,UV,aC,UE,UC,aM,aI,aU,UB,UG,bI,bK,Hs.c1];have KP:=Hs.setT (i:=o.oop) (by omega) (bW 0 ((r.objs.take j).filter kf));have Mm:=ci.stay dv (W':=fun i=>if bW 0 ((r.objs.take j).filter kf)<=i∧i<bW 0 ((r.objs.take j).filter kf)+(((o.place+o.len).toNat-o.place.toNat:Nat):Int) then W' (i-bW 0 ((r.objs.take j).filter kf)+o.place) else W' i) fun i=>by
     have:(((o.place+o.len).toNat-o.place.toNat:Nat):Int)=o.len:=by omega
     rw [this]
    have LM:(r.objs.take (j+1)).filter kf=(r.objs.take j).filter kf++[o]:=by rw [ix,WM];simp [dv]
    refine ⟨by omega,by omega,Hs.mt.wr (by omega) (by omega),⟨j+1,_,_,_,?_,by omega,by rw [ix];exact Mm,?_,lq.step (by simp)⟩,by simp;omega⟩
    ·rw [LM,iB]
    ·rw [LM,fK,UP];have hc:((cz 0 ((r.objs.take j).filter kf)).length:Int)+((r.objs.length-j:Nat):Int)=((cz 0 ((r.objs.take j).filter kf)).length+([({ o with place:=bW 0 ((r.objs.take j).filter kf) }:RO)].length:Nat):Nat)+((r.objs.length-(j+1):Nat):Int):=by
      simp only [List.length_singleton];omega
     have:=KP;simp only [hc] at this;exact this
   ·have dv:kf o=false:=by rw [PG];simpa using Jb
    simp only [Jb,if_false];rw [Ur trivial];have LM:(r.objs.take (j+1)).filter kf=(r.objs.take j).filter kf:=by rw [ix,WM];simp [dv]
    have LL:((cz 0 ((r.objs.take j).filter kf)).length:Int)<=r.objs.length:=by
     rw [mP];have h1:=VW kf (r.objs.take j);have h2:=List.length_take_le j r.objs;rw [U4] at h1;omega
    refine Fy l5 (by omega) (by omega) (by show 0<=T' o.oop;rw [hT];exact PN) (by show T' o.oop<_;rw [hT];omega) (by simp only;omega) (by simp only;omega) fun H4 Hs lq=>?_;have Mm:=ci.drop dv;refine ⟨rfl,⟨j+1,_,_,_,by rw [LM],by omega,by rw [ix];exact Mm,?_,la.trans lq⟩,by simp;omega⟩;rw [LM];have hc:((cz 0 ((r.objs.take j).filter kf)).length:Int)+((r.objs.length-j:Nat):Int)-1=((cz 0 ((r.objs.take j).filter kf)).length:Int)+((r.objs.length-(j+1):Nat):Int):=by omega
    have:=Hs;simp only [hc,hT] at this;exact this
  ·rename_i JY;have Sx:j=r.objs.length:=by omega
   subst Sx;have OT:r.objs.take r.objs.length=r.objs:=Wc;have Lz:r.objs.drop r.objs.length=[]:=Wd;rw [OT,Lz] at ci;rw [OT] at l5;rw [OT];rw [←sd] at l5;have Sy:bW 0 (r.objs.filter kf)=bx (r.keepO ks):=by rw [sd,jq]
   rw [Sy];have JG:=tE eh ks;have hkb:=fF JG eh.w0;have hkc:=mj JG;have pp:bx (r.keepO ks)<=bx r.objs:=by
    rcases Vu (r.keepO ks) with he | ⟨m,x,he⟩
    ·rw [he];simpa [bx] using Pu.1
    ·simp only [VF] at he;have hx:x∈r.keepO ks:=by rw [he];simp
     rw [sd] at hx;obtain ⟨o,g1,g2,g3⟩:=pr _ 0 ci.wfd (fun o ho=>(ci.wfd.good o ho).pl) x hx;have LN:x.len=o.len:=by rw [g2];rfl
     have:=lF eh.objs (U6.1 g1).1;rw [he,dD];omega
   have JE:((r.keepO ks).length:Int)<=r.objs.length:=by
    rw [sd,mP]
    have:=VW kf r.objs;omega
   simp only [ah,UK,Ut,Uw,UA,bh,aW,bC,bE,bi,bF,bz,aX,bB,bA,bg,bD,UT,UU,UV,aC,UE,UC,aM,aI,aU,UB,UG,bI,bK,l5.c0,l5.c4];refine ⟨by omega,by omega,by omega,by omega,?_⟩;refine ml ic l5.mw (by omega) (by omega) fun H4 Mg MV JS=>?_;have Hs:Raw H4 hb wb tb bb r.words.toNat (r.oops+1).toNat ⟨fun i=>if bx (r.keepO ks)<=i∧i<bx (r.keepO ks)+(((bx r.objs).toNat-(bx (r.keepO ks)).toNat:Nat):Int) then 0 else W' i,T',B,((r.keepO ks).length:Int)+((r.objs.length-r.objs.length:Nat):Int),bx r.objs,low',r.mark,r.born,r.turn⟩:=⟨l5.hd.of_eq (JS _ b9.1.1),Mg,l5.mt.of_eq (JS _ b9.2.1.1.symm),l5.mb.of_eq (JS _ b9.2.1.2.1.symm),l5.d⟩;have lq:Fr [hb,wb,tb,bb] H2 H4:=la.trans ⟨by omega,fun b _ hn=>JS b fun e=>hn (by simp [e])⟩;have KP:=Hs.set4 (bx (r.keepO ks));have Ry:=KP.set8 (IntKind.wrap .i64 (r.turn+1));simp only [ah,UK,Ut,Uw,UA,bh,aW,bC,bE,bi,bF,bz,aX,bB,bA,bg,bD,UT,UU,UV,aC,UE,UC,aM,aI,aU,UB,UG,bI,bK,KP.c8,Ry.c3];have e7:IntKind.wrap .i64 ((r.objs.length:Int)-(((r.keepO ks).length:Int)+((r.objs.length-r.objs.length:Nat):Int)))=(r.objs.length:Int)-((r.keepO ks).length:Int):=by rw [az (by omega) (by omega)];omega
   have e8:IntKind.wrap .i64 (bx r.objs-bx (r.keepO ks))=bx r.objs-bx (r.keepO ks):=az (by omega) (by omega);rw [e7,e8];have Ju:Fr [hb,wb,tb,bb] H (bc (bc H4 ⟨hb,4,none⟩ (ac (bx (r.keepO ks)))) ⟨hb,8,none⟩ (ac (IntKind.wrap .i64 (r.turn+1)))):=((ap lq).step (by simp)).step (by simp);refine ⟨Hs.wrh (by decide),KP.wrh (by decide),h _ ⟨wb,tb,bb,_,_,_,_,rfl,Ry.phs (hR.kinds.fr Ju Gl.gk) KN (r:={ r with objs:=r.keepO ks,turn:=IntKind.wrap .i64 (r.turn+1) }) ?_ rfl rfl (by simp) rfl rfl rfl rfl⟩ Ju⟩;have PQ:KeepSt W r.words r.oops kf r.objs [] (fun i=>if bx (r.keepO ks)<=i∧i<bx (r.keepO ks)+(((bx r.objs).toNat-(bx (r.keepO ks)).toNat:Nat):Int) then 0 else W' i) T' low' :=
    { wf:=ci.wf,regK:=fun x hx=>by
       obtain ⟨o,g1,g2,g3⟩:=ci.regK x hx;refine ⟨o,g1,g2,fun i h0 h1=>?_⟩;have Gt:x∈r.keepO ks:=by rw [sd];exact hx
       have:=lF JG Gt;have LN:x.len=o.len:=by rw [g2];rfl
       rw [Uq (by omega)];exact g3 i h0 h1
      regR:=fun y hy=>by cases hy
      tab:=ci.tab,low1:=ci.low1,low2:=ci.low2,low3:=ci.low3 }
   have:=Cv hR.sim PQ (tn:=IntKind.wrap .i64 (r.turn+1));rw [←sd] at this;exact this
end
end Go.Proofs.YtgjfejoohojokaaGreatDoor
namespace Kw
section
open Go Go.Proofs Go.Shelf Go.Sort Go.RowKit Go.Lib
variable {P:Program}{α:Type} [Inhabited α]
theorem tZ {enc:α->Value}{w:World}{b:Nat}{d:Array α}{cs:Array Value}{t:TypeId}{fr:Nat × Nat} (hb:w.heap[b]?=some (.cells cs t fr)) :
  (putRow enc w b 0 d).heap[b]?=some (.cells (putCells enc 0 d cs) t fr)∧(putRow enc w b 0 d).heap.size=w.heap.size∧∀ b',b'≠b->(putRow enc w b 0 d).heap[b']?=w.heap[b']?:=by
 refine ⟨?_,by simp [putRow,mapBlock],fun b' hn=>?_⟩
 ·simp only [putRow,mapBlock,U2,if_true,hb,Vw];rfl
 ·simp only [putRow,mapBlock,U2];rw [Uq (V5 hn)]
theorem kk {enc:α->Value}{w:World}{b m:Nat}{d:Array α}{os:Array Obj}{cs:Array Value}{t:TypeId}{fr:Nat × Nat} (hb:w.heap[b]?=some (.cells cs t fr)) :
  (sortWorld enc w b 0 m d os).heap[b]?=some (.cells (putCells enc 0 d cs) t fr)∧Fr [b] w.heap (sortWorld enc w b 0 m d os).heap:=by
 have h:=tZ (enc:=enc) (w:=Sort.ahead w m) (d:=d) (b:=b) (cs:=cs) (t:=t) (fr:=fr) hb;have aa:b<w.heap.size:=(UN.1 hb).1;have hs:(Sort.ahead w m).heap.size=w.heap.size:=rfl;unfold sortWorld Sort.grow;refine ⟨?_,?_,fun b' b8 hn=>?_⟩
 ·simp only;rw [VC (by rw [h.2.1];exact aa)];exact h.1
 ·simp only [Wa];rw [h.2.1];exact WZ _ _
 ·simp only;rw [VC (by rw [h.2.1];exact b8)];exact h.2.2 b' (by simpa using hn)
theorem qh {ρ:Ren} (L:SlLaysF.n6 P ρ) (enc:α->Int) (cf:α->α->Int) (hO:SWO (ltOf cf)) (hT:∀ x y,(ltOf cf) x y=false->(ltOf cf) y x=false->x=y){g:Nat}{cb:Array Value}
  (hfn:∃ fn,P.funcs[ρ.f 6]?=some fn∧fn.body.isSome=true) (eg:∀ args w,(callFunc g args).run P w=.ok (.enter g args) w){b l c:Nat}{H:ag}{d:List α}{Q:Value->ag->Prop} (ho:cZ 1 H (some ⟨b,0,none⟩) l c (av (d.map enc)) [b]) (hsz:l<4611686018427387904)
  (r0:∀ x y H',Fr [b] H H'->ae P g (#[.int .i64 (enc x),.int .i64 (enc y)]++cb) (fun v H''=>v=.int .i64 (cf x y)∧H''=H') H')
  (h:∀ H',cZ 1 H' (some ⟨b,0,none⟩) l c (av ((d.mergeSort fun x y=>!(ltOf cf) y x).map enc)) [b]->Fr [b] H H'->Q (.tuple #[]) H') :
  ae P (ρ.f 6) #[.slice (some ⟨b,0,none⟩) l c,.func (.func g) #[] cb] Q H:=by
 refine ⟨hfn,?_⟩;intro w hw;subst hw;rcases ho.2.2 with ⟨h0,_,_⟩ | ⟨b',cs,an,_,⟨t,JZ⟩,Hc,ix⟩
 ·cases h0
 cases an;have hl:l=d.length:=by have:=ho.1;simpa [av] using this.symm
 subst hl;have Lz:(d.toArray).size=d.length:=by simp
 have pp:d.length<=c:=ho.2.1;have aj:∀ j,j<d.length->cs[j]?=some (.int .i64 (enc d.toArray[j]!)):=by
  intro j hj;have h1:(cs.toList.take (d.length*1))[j]?=(av (d.map enc))[j]?:=by rw [ix]
  rw [VQ (by omega)] at h1;rw [←Vm,h1];simp [av,hj]
 have hH:Go.Sort.Holds (fun x=>Value.int .i64 (enc x)) w b 0 d.toArray:=by
  intro j hj;rw [Lz] at hj;refine ⟨?_,?_⟩
  ·rw [UE,←aj j hj];unfold World.cell?;simp only [JZ];rfl
  ·unfold World.frozen?;simp only [JZ];simp
 have Jc:=Any.slices_SortFunc L (fun x=>Value.int .i64 (enc x)) (fun _=>rfl) cf hO g cb b 0 c d.toArray w eg (fun m os dk hdk x y=>?_) hH (UN.1 JZ).1 (by simpa using hsz)
 ·rw [Lz] at Jc;refine Jc.mono ?_;rintro e w' ⟨rfl,d',n,os,hp,hs,rfl⟩;have JP:d'=(d.mergeSort fun x y=>!(ltOf cf) y x).toArray:=by
   have h1:=sorted_unique_holds hO hT d.toArray d' (by simpa using hp) (by simpa using hs);rw [←h1]
  subst JP;have hh:=kk (enc:=fun x=>Value.int .i64 (enc x)) (m:=n) (os:=os) (d:=(d.mergeSort fun x y=>!(ltOf cf) y x).toArray) JZ;refine ⟨_,rfl,h _ ⟨by simp [av,Vn],pp,.inr ⟨b,_,rfl,rfl,⟨t,hh.1⟩,by simp [putCells,Hc],?_⟩⟩ hh.2,rfl,rfl,rfl,?_⟩
  ·apply VM
   ·simp [av,putCells,Vn];omega
   ·intro j h1 h2;have hj:j<d.length:=by simpa [av,Vn] using h2
    have sc:j<(d.mergeSort fun x y=>!(ltOf cf) y x).length:=by rw [Vn];exact hj
    simp only [Wt,av,VT,Array.getElem_toList,putCells,Array.getElem_mapIdx,U7,UU,UE,VD,Vn,hj,if_true,WB]
    congr 2
    rw [List.getElem!_toArray,WE,UF sc];rfl
  ·refine ⟨by show w.drawn<=w.drawn+n;omega,hh.2.1,fun b' ds b8=>?_⟩;have dq:b'<w.heap.size:=(UN.1 b8).1;have b9:b'≠b:=fun e=>by subst e;rw [JZ] at b8;cases b8
   exact (hh.2.2 b' dq (by simpa using b9)).trans b8
 ·have hh:=kk (enc:=fun x=>Value.int .i64 (enc x)) (m:=m) (os:=os) (d:=dk) JZ;refine ((r0 x y _ hh.2).2 _ rfl).mono ?_;rintro e w' ⟨v,rfl,⟨rfl,LO⟩,h1,h2,h3,h4,h5⟩;refine ⟨rfl,w'.drawn-(sortWorld (fun x=>Value.int .i64 (enc x)) w b 0 m dk os).drawn,#[],?_⟩;rw [Sort.grow_empty];cases w';simp only at LO h1 h2 h3 h4;subst LO;subst h1;subst h2;subst h3;rename_i dr;have e:dr=(sortWorld (fun x=>Value.int .i64 (enc x)) w b 0 m dk os).drawn+(dr-(sortWorld (fun x=>Value.int .i64 (enc x)) w b 0 m dk os).drawn):=by omega
  unfold World.drewN;show World.mk _ _ _ _ _=World.mk _ _ _ _ _
  congr 1
end
end Kw
