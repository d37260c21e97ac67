/- Lemmas for RIM: functions of the program as predicate transformers, and their contracts. -/
import Derived.OrdersHeld
import Derived.Laws.Sem
import Derived.KernelRfl
import Derived.RangeFuncRecord
import Derived.TacticsIn
import Derived.Tactics
import Derived.OrdersIn
import Derived.Test.YtcfmnlapccgllaaGreatDoorProg
import Derived.Laws.Strings
import Derived.Shelf.Strconv.Itoa3
import Derived.Shelf.Strings.Repeat
import Derived.Shelf.Strings.OnBuilder
import Derived.Ground.NamesProg
import Derived.Calls
import Derived.Shelf.Strings.Builder1
import Derived.Lib.Join
set_option linter.all false
set_option maxRecDepth 100000
set_option maxHeartbeats 4000000
namespace Kw
open Go
def Re:=@if_neg
def Rf:=@Option.isNone_some
def Rg:=@List.mem_singleton
def Rh:=@cond_false
def Ri:=@Option.isNone_none
def Rj:=@if_pos
def Rk:=@List.mem_cons
def Rl:=@List.mem_append
def Rm:=@Nat.zero_add
def Rn:=@Nat.mul_one
def Ro:=@Int.toNat_natCast
def Rp:=@Bool.not_false
def Rq:=@Bool.not_true
def Rr:=@Nat.le_trans
def Rs:=@cond_true
def Rt:=@Array.getElem?_eq_some_iff
def Ru:=@and_assoc
def Rv:=@ByteArray.size_append
def Rw:=@Nat.le_refl
def Rx:=@true_and
def Ry:=@and_true
def Rz:=@List.length_append
def RA:=@Array.size_push
def RB:=@List.getElem?_eq_getElem
def RC:=@Nat.lt_of_lt_of_le
def RE:=@Classical.byContradiction
def RF:=@List.length_cons
def RG:=@List.getElem_mem
def RI:=@List.pairwise_cons
def RJ:=@List.take_of_length_le
def RL:=@Nat.zero_le
def RM:=@List.eq_nil_of_length_eq_zero
def RN:=@List.mem_map
def RP:=@List.take_add_one
def RQ:=@List.getD_eq_getElem?_getD
def RR:=@List.setIfInBounds_toArray
def RT:=@List.getElem?_cons_succ
def RU:=@List.getElem?_cons_zero
def RV:=@List.length_nil
def RX:=@List.size_toArray
def RY:=@Bool.false_eq_true
def RZ:=@List.length_map
def R0:=@List.mem_cons_of_mem
def R1:=@Array.getElem?_modify
def R2:=@List.getElem?_toArray
def R3:=@List.set_cons_zero
def R4:=@Bool.and_eq_true
def R5:=@List.length_take
def R6:=@List.map_cons
def R7:=@List.set_cons_succ
def R9:=@List.append_assoc
def Sa:=@List.not_mem_nil
def Sb:=@List.mem_filter
def Sc:=@Int.le_refl
def Sd:=@Array.getElem?_eq_none
def Se:=@Array.getElem?_setIfInBounds_ne
def Sf:=@Nat.lt_or_ge
def Sg:=@List.eq_nil_or_concat
def Sh:=@List.length_mergeSort
def Si:=@List.getElem?_append_left
def Sj:=@List.drop_eq_getElem_cons
def Sk:=@Bool.eq_iff_iff
def Sl:=@List.take_length
def Sm:=@List.mem_of_mem_take
def Sn:=@List.take_append_of_le_length
def So:=@Int.toNat_of_nonneg
def Sp:=@List.getElem_of_mem
def Sq:=@List.getElem?_map
def Sr:=@List.concat_eq_append
def Ss:=@List.length_filter_le
def Su:=@List.map_append
def Sv:=@List.mem_append_left
def Sw:=@List.cons_append
def Sx:=@or_false
def Sy:=@Array.getElem?_append_left
def Sz:=@Int.tmod_eq_emod_of_nonneg
def SA:=@List.nodup_iff_pairwise_ne
def SB:=@decide_eq_true
def SC:=@List.nodup_append
def SE:=@List.nodup_cons
def SF:=@List.length_replicate
def SG:=@List.all_eq_true
def SH:=@List.ext_getElem
def SI:=@List.getElem_map
def SJ:=@Nat.lt_irrefl
def SK:=@List.pairwise_append
def SL:=@List.pairwise_map
def SM:=@Option.map_some
def SN:=@List.append_nil
def SO:=@List.getElem_cons_zero
def SQ:=@Int.tdiv_eq_ediv_of_nonneg
def SR:=@List.filter_append
def SS:=@Array.getElem?_toList
def ST:=@Nat.add_mul
def SU:=@List.getElem?_take_of_lt
def SV:=@Nat.mul_le_mul_right
def SW:=@List.getElem_append_left
def SX:=@Array.getElem?_push
def SY:=@ByteArray.append_assoc
def SZ:=@Option.isSome_none
def S0:=@List.map_nil
def S1:=@Option.map_none
def S2:=@List.findIdx?_eq_some_iff_getElem
def S3:=@Array.getElem?_push_size
def S4:=@Ne.symm
def S5:=@List.mem_cons_self
def S6:=@List.find?_cons
def S8:=@Array.size_append
def S9:=@List.mem_append_right
def Ta:=@not_or
def Tb:=@List.getElem?_eq_none
def Tc:=@List.set_append_right
def Td:=@Array.getElem?_setIfInBounds
def Te:=@List.getElem?_append_right
def Tf:=@List.perm_ext_iff_of_nodup
def Tg:=@List.replicate_succ
def Th:=@List.mem_or_eq_of_mem_set
def Ti:=@List.findIdx?_eq_none_iff
def Tj:=@decide_eq_false
def Tk:=@Option.isSome_some
def Tl:=@List.map_map
def Tm:=@List.getElem_take
def Tn:=@List.getElem_cons_succ
def To:=@List.take_succ_eq_append_getElem
def Tp:=@List.length_drop
def Tq:=@Option.getD_some
def Tr:=@List.drop_length
def Ts:=@Array.mem_of_getElem?
def Tt:=@Nat.sub_zero
def Tu:=@List.length_set
def Tv:=@List.replicate_succ'
def Tw:=@List.getElem!_eq_getElem?_getD
def Tx:=@List.foldl_cons
def Ty:=@Int.mul_le_mul_of_nonneg_left
def Tz:=@Nat.le_succ
def TA:=@List.getElem_range
def TC:=@List.append_of_mem
def TD:=@Nat.eq_zero_or_pos
def TE:=@List.all_cons
def TF:=@Int.add_assoc
def TG:=@List.Perm.map
def TH:=@List.foldl_append
def TI:=@Array.toList_push
def TJ:=@List.Sublist.refl
def TL:=@List.take_sublist
def TM:=@Int.mul_comm
def TN:=@Nat.add_zero
def TO:=@Nat.le_add_right
def TP:=@List.nodup_range
def TQ:=@List.perm_middle
def TR:=@Array.ext
def TS:=@List.nil_append
abbrev ae:=Array Obj
def aj (H:ae) (a:Addr):Option Value :=
 match H[a.block]? with
 | some (.cells c _ _)=>if a.spot.isSome then none else c[a.off]?
 | _=>none
def iq (H:ae) (r:Nat):Option (TypeId × Nat) :=
 match H[r]? with
 | some (.cells c elem _)=>some (elem,c.size)
 | _=>none
def ld (H:ae) (a:Addr):Bool :=
 match H[a.block]? with
 | some (.cells _ _ (lo,hi))=>lo<=a.off && a.off<hi
 | _=>false
def dJ (H:ae) (a:Addr) (n:Nat):ae :=
 if n=0 then H else
 H.modify a.block fun
   | .cells c elem (lo,hi)=>.cells c elem (if lo == hi then (a.off,a.off+n) else (min lo a.off,max hi (a.off+n)))
   | o=>o
def bc (H:ae) (a:Addr) (v:Value):ae :=
 H.modify a.block fun
   | .cells c elem frozen=>.cells (if a.spot.isSome then c else c.setIfInBounds a.off v) elem frozen
   | o=>o
def Wr (H:ae) (a:Addr):Prop:=(∃ v,aj H a=some v)∧ld H a=false
def dw:Value->Bool
 | .agg _ | .tuple _=>false
 | _=>true
def cQ:Obj->Bool
 | .cells .. | .deferred _ | .loop _=>true
 | _=>false
def cK (H H':ae):Prop:=H.size<=H'.size∧∀ (b:Nat) (ds:Option (List Deferred)),H[b]?=some (Obj.deferred ds)->H'[b]?=some (Obj.deferred ds)
def cv (w w':World):Prop:=w'.tape=w.tape∧w'.os=w.os∧w'.output=w.output∧w.drawn<=w'.drawn∧cK w.heap w'.heap
def cc (P:Program){α:Type}:Sem α->(α->ae->Prop)->ae->Prop
 | .pure a,Q,H=>Q a H
 | .load _ a k,Q,H=>∃ v,aj H a=some v∧cc P (k v) Q H
 | .store _ a v k,Q,H=>dw v=true∧Wr H a∧cc P k Q (bc H a v)
 | .new o k,Q,H=>cc P (k H.size) Q (H.push o)
 | .shape r k,Q,H=>cc P (k (iq H r)) Q H
 | .freeze a n k,Q,H=>cc P k Q (dJ H a n)
 | .frozen a k,Q,H=>cc P (k (ld H a)) Q H
 | .getObj r k,Q,H=>∃ o,H[r]?=some o∧cQ o=false∧cc P (k o) Q H
 | .setObj r o k,Q,H=>(∃ o',H[r]?=some o'∧cQ o'=false)∧cc P k Q (H.setIfInBounds r o)
 | .choose q k,Q,H=>if q.forced then cc P (k 0) Q H else ∀ t,cc P (k (q.cut t)) Q H
 | .sys _ _,_,_=>False
 | .program k,Q,H=>cc P (k P) Q H
 | .mark _ k,Q,H=>cc P k Q H
 | .halt _,_,_=>False
def yy (P:Program){α:Type}:Sem α->(α->Prop)->Prop
 | .pure a,k=>k a
 | .program c,k=>yy P (c P) k
 | .mark _ c,k=>yy P c k
 | _,_=>False
def lW (d:Option TypeDesc) (k:Value->Prop):Prop :=
 match d with
 | some (.int κ)=>∃ n:Int,k (.int κ n)
 | some .bool=>∃ b:Bool,k (.bool b)
 | some .string=>∃ s:ByteArray,k (.string s)
 | some (.pointer _)=>∃ p:Option Addr,k (.pointer p)
 | some (.slice _)=>∃(a:Option Addr) (l c:Nat),k (.slice a l c)
 | some (.map _ _)=>∃ r:Option Nat,k (.map r)
 | some (.func _ _ _)=>∃(f:Nat) (g h:Array Value),k (.func (.func f) g h)
 | _=>∃ v:Value,k v
def jF (d:Option TypeDesc) (k:Value->Prop):Prop :=
 match d with
 | some (.func _ _ _)=>(∃(f:Nat) (g h:Array Value),k (.func (.func f) g h))∨k .nilFunc
 | d=>lW d k
def Cl:List (Option TypeDesc)->(List Value->Prop)->Prop
 | [],k=>k []
 | d :: r,k=>jF d fun v=>Cl r fun vs=>k (v :: vs)
def pU (P:Program):Nat->TypeId->List (Option TypeDesc)
 | 0,_=>[]
 | n+1,t =>
  match P.underlying t with
  | some (.struct fs)=>fs.toList.flatMap fun f=>pU P n f.type
  | some (.array len e)=>(List.replicate len (pU P n e)).flatten
  | d=>[d]
def Bc (P:Program) (t:TypeId) (k:Value->Prop):Prop :=
 match P.underlying t with
 | some (.struct _) | some (.array _ _)=>Cl (pU P 20 t) fun vs=>k (.agg vs.toArray)
 | d=>lW d k
def A5 (P:Program):List TypeId->(List Value->Prop)->Prop
 | [],k=>k []
 | t :: r,k=>Bc P t fun v=>A5 P r fun vs=>k (v :: vs)
def sq (P:Program) (t:TypeId) (v:Value) (k:Value->Prop):Prop :=
 match P.underlying t with
 | some (.tuple ts)=>A5 P ts.toList fun vs=>v=.tuple vs.toArray∧k (.tuple vs.toArray)
 | _=>Bc P t fun x=>v=x∧k x
def rO (H:ae) (ad:Addr):Nat->List (Option TypeDesc)->(List Value->List (Addr × Value)->Prop)->Prop
 | _,[],k=>k [] []
 | i,d :: r,k=>jF d fun v=>aj H (ad.add i)=some v∧rO H ad (i+1) r fun vs cs=>k (v :: vs) ((ad.add i,v) :: cs)
def lj (P:Program) (t:TypeId) (ad:Addr) (H:ae) (k:Value->List (Addr × Value)->Prop):Prop :=
 match P.underlying t with
 | some (.struct _) | some (.array _ _) =>
  match decide ((P.info? t).map (·.size)=some (pU P 20 t).length) with
  | true=>rO H ad 0 (pU P 20 t) fun vs cs=>k (.agg vs.toArray) cs
  | false=>False
 | d=>match d with
  | some _=>jF d fun v=>aj H ad=some v∧k v [(ad,v)]
  | none=>False
def ow (ad:Addr):Nat->List Value->(ae->Prop)->ae->Prop
 | _,[],k,H=>k H
 | i,v :: r,k,H =>
  match dw v with
  | true=>Wr H (ad.add i)∧ow ad (i+1) r k (bc H (ad.add i) v)
  | false=>False
def om (P:Program) (t:TypeId) (ad:Addr) (v:Value) (k:ae->Prop) (H:ae):Prop :=
 match decide ((P.info? t).map (·.size)=some v.cells.toList.length) with
 | true=>ow ad 0 v.cells.toList k H
 | false=>False
def ag (P:Program) (f:FuncId) (args:Array Value) (Q:Value->ae->Prop) (H:ae):Prop :=
 (∃ fn,P.funcs[f]?=some fn∧fn.body.isSome=true) ∧
 ∀ w:World,w.heap=H->Calls P f args w fun e w'=>∃ v,e=.returned v∧Q v w'.heap∧cv w w'
def Bb (k:Value->Prop):Next->Prop
 | .value v=>k v
 | _=>False
def iw (P:Program) (t:TypeId):Nat:=((P.info? t).map (·.size)).getD 0
def BN (P:Program) (t:TypeId):Bool :=
 match P.underlying t with
 | some (.struct _) | some (.array _ _) | none=>false
 | some _=>decide ((P.info? t).map (·.size)=some 1)
def ii (base:Option Addr) (cap:Nat) (l:Int) (size:Nat):Option Addr:=if cap=l.toNat then base else base.map (·.add (l.toNat*size))
def qs (k:IntKind) (x y:Int):Int:=k.wrap (BitVec.ofInt k.bits x &&& BitVec.ofInt k.bits y).toNat
def xT (k:IntKind) (x y:Int):Int:=k.wrap (BitVec.ofInt k.bits x ||| BitVec.ofInt k.bits y).toNat
def wj (k:IntKind) (x y:Int):Int:=k.wrap (BitVec.ofInt k.bits x &&& ~~~(BitVec.ofInt k.bits y)).toNat
def jw (k:IntKind) (x y:Int):Int:=k.wrap (x*2 ^ (min y.toNat k.bits))
def kg (k:IntKind) (x y:Int):Int:=x.fdiv (2 ^ (min y.toNat k.bits))
def iV (x y:ByteArray):Bool:=x.toList == y.toList
def fR (P:Program) (o:Oper) (ρ:Operand->Value) (k:Value->Prop):Prop :=
 match o.op with
 | .pick c x y =>
  match ρ c with
  | .bool b=>cond b (k (ρ x)) (k (ρ y))
  | _=>False
 | .nilCheck x =>
  match ρ x with
  | .pointer p=>∃ ad,p=some ad∧k (.pointer (some ad))
  | _=>yy P (execOp ρ o) (Bb k)
 | .indexAddr t x i =>
  match P.underlying t,ρ x,ρ i with
  | some (.slice e),.slice base len _,.int _ i =>
   match (P.info? e).isSome with
   | true=>(0<=i∧i<len)∧∃ b,base=some b∧k (.pointer (some (b.add (i.toNat*iw P e))))
   | false=>False
  | some (.array len e),.pointer (some b),.int _ i =>
   match (P.info? e).isSome with
   | true=>(0<=i∧i<(len:Int))∧k (.pointer (some (b.add (i.toNat*iw P e))))
   | false=>False
  | _,_,_=>False
 | .index t x i =>
  match P.underlying t,ρ x,ρ i with
  | some .string,.string s,.int _ i=>∃ b:UInt8,(0<=i∧s[i.toNat]?=some b)∧k (.int .u8 b.toNat)
  | some (.array len e),.agg cs,.int _ i =>
   match BN P e with
   | true=>(0<=i∧i<(len:Int))∧lW (P.underlying e) fun v=>cs[i.toNat]?=some v∧k v
   | false=>yy P (execOp ρ o) (Bb k)
  | _,_,_=>False
 | .slice t x lo (some hi) (some mx) =>
  match P.underlying t,ρ x,ρ hi,ρ mx with
  | some (.slice e),.slice base _ cap,.int _ h,.int _ m =>
   match (P.info? e).isSome with
   | true =>
    match lo.map ρ with
    | none=>(((0<=m∧m<=(cap:Int))∧0<=h∧h<=m))∧k (.slice base h.toNat m.toNat)
    | some (.int _ l)=>(((0<=m∧m<=(cap:Int))∧0<=h∧h<=m)∧0<=l∧l<=h)∧k (.slice (ii base m.toNat l (iw P e)) (h.toNat-l.toNat) (m.toNat-l.toNat))
    | _=>False
   | false=>False
  | _,_,_,_=>False
 | .slice t x lo hi none =>
  match P.underlying t,ρ x with
  | some (.slice e),.slice base len cap =>
   match (P.info? e).isSome with
   | true =>
    match lo.map ρ,hi.map ρ with
    | none,none=>k (.slice base len cap)
    | none,some (.int _ h)=>(0<=h∧h<=(cap:Int))∧k (.slice base h.toNat cap)
    | some (.int _ l),none=>(0<=l∧l<=(len:Int))∧k (.slice (ii base cap l (iw P e)) (len-l.toNat) (cap-l.toNat))
    | some (.int _ l),some (.int _ h)=>((0<=h∧h<=(cap:Int))∧0<=l∧l<=h)∧k (.slice (ii base cap l (iw P e)) (h.toNat-l.toNat) (cap-l.toNat))
    | _,_=>False
   | false=>False
  | some .string,.string s =>
   match lo.map ρ,hi.map ρ with
   | none,none=>k (.string (s.extract 0 s.size))
   | none,some (.int _ h)=>(0<=h∧h<=(s.size:Int))∧k (.string (s.extract 0 h.toNat))
   | some (.int _ l),none=>(0<=l∧l<=(s.size:Int))∧k (.string (s.extract l.toNat s.size))
   | some (.int _ l),some (.int _ h)=>((0<=h∧h<=(s.size:Int))∧0<=l∧l<=h)∧k (.string (s.extract l.toNat h.toNat))
   | _,_=>False
  | _,_=>False
 | .binOp op t x y _ =>
  match op,P.underlying t,ρ x,ρ y with
  | .eql,some (.pointer _),.pointer p,.pointer none=>k (.bool p.isNone)
  | .neq,some (.pointer _),.pointer p,.pointer none=>k (.bool (!p.isNone))
  | .eql,some (.slice _),.slice p _ _,.slice none _ _=>k (.bool p.isNone)
  | .neq,some (.slice _),.slice p _ _,.slice none _ _=>k (.bool (!p.isNone))
  | .eql,some (.map _ _),.map p,.map none=>k (.bool p.isNone)
  | .neq,some (.map _ _),.map p,.map none=>k (.bool (!p.isNone))
  | .quo,_,.int κ x,.int κ' y=>match decide (κ=κ') with
   | true=>cond (decide (y=0)) False (k (.int κ (κ.wrap (x.tdiv y))))
   | false=>False
  | .rem,_,.int κ x,.int κ' y=>match decide (κ=κ') with
   | true=>cond (decide (y=0)) False (k (.int κ (x.tmod y)))
   | false=>False
  | .shl,_,.int κ x,.int _ y=>cond (decide (y<0)) False (k (.int κ (jw κ x y)))
  | .shr,_,.int κ x,.int _ y=>cond (decide (y<0)) False (k (.int κ (kg κ x y)))
  | .add,_,.string x,.string y=>cond (decide (((x.size+y.size:Nat):Int) > IntKind.i64.max)) False (k (.string (x++y)))
  | _,_,_,_=>yy P (execOp ρ o) (Bb k)
 | _=>yy P (execOp ρ o) (Bb k)
def rc (P:Program) (o:Oper):Bool :=
 match o.op with
 | .move _ | .assign _ | .pick .. | .build .. | .nilCheck _ | .unOp .. | .makeInterface .. | .makeFunc .. | .slice .. | .fieldAddr .. | .field .. | .indexAddr .. | .index .. | .extract ..=>true
 | .binOp op t x y _ =>
  match P.underlying t with
  | some (.pointer _)=>(match y with | .const (.pointer none)=>true | _=>false)
  | some (.interface _) | some (.struct _) | some (.array _ _)=>false
  | _=>(match op,x with | _,_=>true)
 | .convert src dst _ =>
  match P.underlying src,P.underlying dst with
  | some (.slice _),some (.slice _)=>false
  | some (.slice _),_=>false
  | some .string,some (.slice _)=>false
  | _,_=>true
 | .call c =>
  match c.callee with
  | .builtin .len | .builtin .cap =>
   (match (c.argTypes[0]?).bind P.underlying with
    | some .string | some (.slice _) | some (.array _ _)=>true
    | _=>false)
  | .builtin .min | .builtin .max=>true
  | _=>false
 | _=>false
def BH (v:Value) (k:Value->Prop):Prop:=(v=.tuple #[.bool false]∧k (.tuple #[.bool false]))∨∃ x y:Value,v=.tuple #[.bool true,x,y]∧k (.tuple #[.bool true,x,y])
def rt (P:Program) (o:Oper) (ρ:Operand->Value) (k:Value->ae->Prop) (H:ae):Prop :=
 match rc P o with
 | true=>fR P o ρ fun v=>k v H
 | false =>
  match o.op with
  | .load t x =>
   match ρ x with
   | .pointer (some ad)=>lj P t ad H fun v _=>k v H
   | _=>False
  | .store t x v =>
   match ρ x with
   | .pointer (some ad)=>om P t ad (ρ v) (k undef) H
   | _=>False
  | .alloc e =>
   match (P.info? e).bind (·.zero) with
   | some z=>k (.pointer (some ⟨H.size,0,none⟩)) (H.push (.cells z.cells e))
   | none=>False
  | .box e x=>k (.pointer (some ⟨H.size,0,none⟩)) (H.push (.cells (ρ x).cells e))
  | .buildSlice t len parts=>cc P (Instr.buildSlice t len (parts.map fun (i,x)=>(i,ρ x))) k H
  | .makeMap _ none=>k (.map (some H.size)) (H.push (.map #[] 0))
  | .makeSlice t l c=>cc P (Instr.makeSlice t (ρ l) (ρ c)) (fun v H'=>sq P o.type v fun x=>k x H') H
  | .lookup t m key ok=>cc P (Instr.lookup t (ρ m) (ρ key) ok) (fun v H'=>sq P o.type v fun x=>k x H') H
  | .mapUpdate t m key x=>cc P (Instr.mapUpdate t (ρ m) (ρ key) (ρ x)) (fun _ H'=>k undef H') H
  | .insert t m key x=>cc P (Instr.mapUpdate t (ρ m) (ρ key) (ρ x)) (fun _ H'=>k undef H') H
  | .mapEntry t m key=>cc P (Instr.mapEntry t (ρ m) (ρ key)) (fun v H'=>k v H') H
  | .entryStore t m s x=>cc P (Instr.entryStore t (ρ m) (ρ s) (ρ x)) (fun _ H'=>k undef H') H
  | .range t x=>cc P (Instr.range t (ρ x)) k H
  | .next it s=>cc P (Instr.next (ρ it) s o.type) (fun v H'=>BH v fun x=>k x H') H
  | .convert src dst x=>cc P (convert src dst (ρ x)) (fun v H'=>sq P o.type v fun x=>k x H') H
  | .binOp op t x y _=>cc P (do eqGuard op t x y (ρ x) (ρ y);binOp op t (ρ x) (ρ y)) (fun v H'=>sq P o.type v fun x=>k x H') H
  | .call c =>
   match c.callee with
   | .value f =>
    match ρ f with
    | .func (.func g) first cap=>ag P g ((first++c.args.map ρ)++cap) (fun v H'=>sq P o.type v fun x=>k x H') H
    | _=>False
   | .builtin .append=>cc P (Builtin.append_ c.argTypes o.type (c.args.map ρ)) (fun v H'=>sq P o.type v fun x=>k x H') H
   | .builtin .copy=>cc P (Builtin.copy_ c.argTypes o.type (c.args.map ρ)) (fun v H'=>sq P o.type v fun x=>k x H') H
   | .builtin .clear=>cc P (Builtin.clear_ c.argTypes o.type (c.args.map ρ)) k H
   | .builtin .delete=>cc P (Builtin.delete_ c.argTypes o.type (c.args.map ρ)) k H
   | .builtin .len=>cc P (Builtin.len_ c.argTypes o.type (c.args.map ρ)) (fun v H'=>sq P o.type v fun x=>k x H') H
   | .builtin .unsafeSliceData=>cc P (Builtin.unsafeSliceData_ c.argTypes o.type (c.args.map ρ)) (fun v H'=>sq P o.type v fun x=>k x H') H
   | .builtin .unsafeString=>cc P (Builtin.unsafeString_ c.argTypes o.type (c.args.map ρ)) (fun v H'=>sq P o.type v fun x=>k x H') H
   | _=>False
  | _=>False
def jR (ops:Array Oper) (o:Oper) (a:Act) (yes no:Act->Prop):Prop :=
 match o.guard with
 | none=>yes a
 | some (j,want) =>
  match (ops[j]?).bind (·.dst) with
  | none=>no a
  | some d =>
   match a.tmps[d]? with
   | some (.bool b) =>
    cond b (match want with | true=>yes (a.put (some d) (.bool true)) | false=>no (a.put (some d) (.bool true)))
     (match want with | true=>no (a.put (some d) (.bool false)) | false=>yes (a.put (some d) (.bool false)))
   | some (.tuple _)=>no a
   | none=>no a
   | _=>False
def eP (P:Program) (l:Nat) (args:Array Value) (Q:Value->ae->Prop) (H:ae):Prop :=
 ∀ w:World,w.heap=H->∃ fn tmps assign body,(Instr.yield l args).run P w=.ok (.round l fn tmps assign body) w ∧
  RoundIn Fence.wide 0 P l fn tmps assign body w fun e w'=>∃ v,e=.returned v∧Q v w'.heap∧cv w w'
def yK (ops:Array Oper) (d:Option Tmp) (i:Nat):Option TypeId :=
 (ops.toList.find? fun q=>match q.op with
  | .extract (.tmp t) j=>decide (some t=d) && decide (j=i)
  | _=>false).map (·.type)
def yY (P:Program) (t:Option TypeId) (k:Value->Prop):Prop :=
 match t with
 | some t=>Bc P t k
 | none=>∃ v:Value,k v
def oD (P:Program) (ops:Array Oper) (o:Oper) (a:Act) (k:Act->ae->Prop) (H:ae):Prop :=
 match o.op with
 | .defer c =>
  match c.callee with
  | .value f =>
   match a.eval f with
   | .func (.func g) first cap=>k ({ a with defers:=⟨.fn (.func g) cap,first++c.args.map a.eval⟩ :: a.defers }.put o.dst undef) H
   | _=>False
  | _=>False
 | .entry it=>cc P (Instr.entry (a.eval it)) (fun v H'=>yY P (yK ops o.dst 0) fun x=>yY P (yK ops o.dst 1) fun y=>v=.tuple #[x,y]∧k (a.put o.dst (.tuple #[x,y])) H') H
 | .call c =>
  match c.callee with
  | .value f =>
   match a.eval f with
   | .func (.yield l) first _=>eP P l (first++c.args.map a.eval) (fun v H'=>sq P o.type v fun x=>k (a.put o.dst x) H') H
   | _=>rt P o a.eval (fun v H'=>k (a.put o.dst v) H') H
  | _=>rt P o a.eval (fun v H'=>k (a.put o.dst v) H') H
 | _=>rt P o a.eval (fun v H'=>k (a.put o.dst v) H') H
def rT (P:Program) (ops:Array Oper) (Q:Act->ae->Prop):List Oper->Act->ae->Prop
 | [],a,H=>Q a H
 | o :: rest,a,H =>
  jR ops o a (fun a=>oD P ops o a (fun a' H'=>rT P ops Q rest a' H') H) (fun a=>rT P ops Q rest (a.put o.dst undef) H)
def jD (ops:Array Oper) (i:Nat):List Nat :=
 match ops[i]? with
 | some o=>(o.after.toList.filter (Region.binds .any)).map (·.on)
 | none=>[]
def se (ops:Array Oper):Nat->List Nat->List Nat
 | 0,acc=>acc
 | p+1,acc=>se ops p (if acc.contains p then jD ops p++acc else acc)
def BD (ops:Array Oper) (i:Nat):List Nat:=se ops i (jD ops i)
def gj:List (Addr × Value)->ae->Prop
 | [],_=>True
 | (a,v) :: r,H=>aj H a=some v∧gj r H
def Holds:List (Nat × List (Addr × Value))->ae->Prop
 | [],_=>True
 | (_,l) :: r,H=>gj l H∧Holds r H
def kw (ops:Array Oper) (i:Nat) (held:List (Nat × List (Addr × Value))):List (Nat × List (Addr × Value)):=held.filter fun h=>!(BD ops i).contains h.1
def vH (P:Program) (o:Oper):Bool:=rc P o || (match o.op with | .load ..=>true | _=>false)
def rF:List Nat->(Nat->Prop)->Prop
 | [],_=>True
 | [i],p=>p i
 | i :: r,p=>p i∧rF r p
def wh (P:Program) (ops:Array Oper) (listed:Array Bool):Option Nat :=
 (Region.ready .any ops listed).find? fun i=>((ops[i]?).map (vH P)).getD false
def dE (o:Oper):Bool:=match o.op with | .defer _=>true | _=>false
def fN (P:Program) (ops:Array Oper) (Q:Act->ae->Prop):Nat->Array Bool->List (Nat × List (Addr × Value))->Act->ae->Prop
 | 0,listed,_,a,H=>match (Region.ready .any ops listed).isEmpty with
  | true=>Q a H
  | false=>False
 | n+1,listed,held,a,H =>
  match wh P ops listed with
  | some i =>
   match Region.free .any ops listed i,ops[i]? with
   | true,some o =>
    jR ops o a
     (fun a =>
      match rc P o with
      | true=>fR P o a.eval fun v=>fN P ops Q n (listed.setIfInBounds i true) held (a.put o.dst v) H
      | false =>
       match o.op with
       | .load t x =>
        match a.eval x with
        | .pointer (some ad)=>lj P t ad H fun v cs=>fN P ops Q n (listed.setIfInBounds i true) ((i,cs) :: held) (a.put o.dst v) H
        | _=>False
       | _=>False)
     (fun a=>fN P ops Q n (listed.setIfInBounds i true) held (a.put o.dst undef) H)
   | _,_=>False
  | none =>
   match Region.ready .any ops listed with
   | []=>Q a H
   | rs=>rF rs fun i =>
    match ops[i]? with
    | some o =>
     jR ops o a
      (fun a=>match dE o with
       | true=>False
       | false=>oD P ops o a (fun a' H'=>Holds (kw ops i held) H'∧fN P ops Q n (listed.setIfInBounds i true) (kw ops i held) a' H') H)
      (fun a=>fN P ops Q n (listed.setIfInBounds i true) (kw ops i held) (a.put o.dst undef) H)
    | none=>False
def gQ:Code->Nat
 | .region id _ _=>id
 | .seq a b=>(match a with | .skip=>gQ b | _=>gQ a)
 | .cond _ a _=>gQ a
 | .block _ b=>gQ b
 | .loop b=>gQ b
 | _=>1000000
def dg:Code->List Nat
 | .region _ ops _=>ops.toList.filterMap (·.dst)
 | .seq a b=>dg a++dg b
 | .cond _ a b=>dg a++dg b
 | .block _ b=>dg b
 | .loop b=>dg b
 | _=>[]
def bM:Code->Bool
 | .region _ ops _=>ops.toList.all fun o=>!dE o
 | .seq a b=>bM a && bM b
 | .cond _ a b=>bM a && bM b
 | .block _ b=>bM b
 | .loop b=>bM b
 | .rangeFunc ..=>true
 | .skip | .label _ | .exit _ | .ret=>true
 | _=>false
def di:Code->Bool
 | .region ..=>true
 | .seq a b=>di a && di b
 | .cond _ a b=>di a && di b
 | .block _ b=>di b
 | .loop b=>di b
 | .skip | .label _ | .exit _ | .ret=>true
 | _=>false
def cn:Code->Bool
 | .region ..=>true
 | .seq a b=>cn a && cn b
 | .cond _ a b=>cn a && cn b
 | .block _ b=>cn b
 | .loop b=>cn b
 | .skip | .label _ | .exit _ | .ret=>true
 | _=>false
def pc (a:Act) (ws:List Nat) (g:Nat->Value):Act:=ws.foldl (fun a i=>a.put (some i) (g i)) a
def ot (P:Program):List (Nat × TypeId)->(List (Nat × Value)->Prop)->Prop
 | [],k=>k []
 | (t,ty) :: r,k=>Bc P ty fun v=>ot P r fun ps=>k ((t,v) :: ps)
def lx (a:Act) (ps:List (Nat × Value)):Act:=ps.foldl (fun a p=>a.put (some p.1) p.2) a
def dX (a:Act) (L:List (Nat × TypeId)):List Value:=L.map fun p=>a.tmps.getD p.1 undef
abbrev lG:=Exit->Act->ae->Prop
def uB (K:Act->ae->Prop) (Q:lG):lG
 | .normal,a,H=>K a H
 | e,a,H=>Q e a H
def qi (id:Nat) (Q:lG):lG
 | .exit id',a,H=>match decide (id'=id) with
  | true=>Q .normal a H
  | false=>Q (.exit id') a H
 | e,a,H=>Q e a H
abbrev rk:=Nat->Option (List (Nat × TypeId))
def my (P:Program) (ws:List Nat) (L:List (Nat × TypeId)) (a:Act) (K:Act->ae->Prop) (vs:List Value) (H:ae):Prop :=
 ∀ g:Nat->Value,ot P L fun ps=>vs=ps.map (·.2)∧K (lx (pc a ws g) ps) H
def gg (fn:FuncId) (tmps:Array Value) (ps:Array Tmp) (assign body:Code) (D:Nat):Loop:={ state:=.ready,pending:=none,fn,tmps,params:=ps,assign,body,defers:=D }
def ss:List (Nat × (ae->Prop))->Nat->ae->Prop
 | [],_,_=>False
 | (i,K) :: r,id,H=>match decide (id=i) with
  | true=>K H
  | false=>ss r id H
def fh:Code->List Nat
 | .seq a b=>fh a++fh b
 | .cond _ a b=>fh a++fh b
 | .block i b=>(fh b).filter (· != i)
 | .loop b=>fh b
 | .exit i=>[i]
 | _=>[]
def il (l:Nat) (Kn Kr:ae->Prop) (Ke:List (Nat × (ae->Prop))) (H2:ae):Prop :=
 ∃ r:Loop,H2[l]?=some (.loop r)∧r.state≠.busy ∧
  match r.pending with
  | none=>Kn (H2.setIfInBounds l (.loop { r with state:=.exhausted }))
  | some .ret=>Kr (H2.setIfInBounds l (.loop { r with state:=.exhausted }))
  | some (.exit id)=>ss Ke id (H2.setIfInBounds l (.loop { r with state:=.exhausted }))
  | _=>False
def fM:Code->List (Array Tmp × Code × Code)
 | .seq a b=>fM a++fM b
 | .cond _ a b=>fM a++fM b
 | .block _ b=>fM b
 | .loop b=>fM b
 | .rangeFunc _ ps a b=>[(ps,a,b)]
 | _=>[]
def fW (P:Program) (f:FuncId) (k:Nat):Array Tmp × Code × Code :=
 match (P.funcs[f]?).bind (·.body) with
 | some c=>(fM c).getD k (#[],.skip,.skip)
 | none=>(#[],.skip,.skip)
def uz (l:Nat) (Q:Value->ae->Prop):lG
 | .normal,_,H=>∃ r:Loop,H[l]?=some (.loop r)∧Q (.bool true) (H.setIfInBounds l (.loop { r with state:=.ready,pending:=none }))
 | .ret,_,H=>∃ r:Loop,H[l]?=some (.loop r)∧Q (.bool false) (H.setIfInBounds l (.loop { r with state:=.done,pending:=some .ret }))
 | .exit id,_,H=>∃ r:Loop,H[l]?=some (.loop r)∧Q (.bool false) (H.setIfInBounds l (.loop { r with state:=.done,pending:=some (.exit id) }))
 | _,_,_=>False
def uv (l:Nat) (K:Act->ae->Prop):lG
 | .normal,a,H=>∃ r:Loop,H[l]?=some (.loop r)∧r.state=.ready∧K a (H.setIfInBounds l (.loop { r with state:=.busy }))
 | _,_,_=>False
def ev (P:Program) (Ls:rk):Code->lG->Act->ae->Prop
 | .skip,Q,a,H=>Q .normal a H
 | .label _,Q,a,H=>Q .normal a H
 | .region _ ops draw,Q,a,H =>
  match draw with
  | false=>rT P ops (Q .normal) ops.toList a H
  | true =>
   match Region.noSelect ops with
   | true=>fN P ops (Q .normal) ops.size (Array.replicate ops.size false) [] a H
   | false=>False
 | .seq x y,Q,a,H =>
  match Ls (1000+gQ y) with
  | none=>ev P Ls x (uB (ev P Ls y Q) Q) a H
  | some L =>
   match bM x with
   | true=>∃ J:List Value->ae->Prop,ev P Ls x (uB (fun a' H'=>J (dX a' L) H') Q) a H ∧
    ∀ vs H',J vs H'->my P (dg x) L a (ev P Ls y Q) vs H'
   | false=>False
 | .cond c x y,Q,a,H =>
  match a.eval c with
  | .bool b =>
   match c with
   | .tmp t=>cond b (ev P Ls x Q (a.put (some t) (.bool true)) H) (ev P Ls y Q (a.put (some t) (.bool false)) H)
   | _=>cond b (ev P Ls x Q a H) (ev P Ls y Q a H)
  | _=>False
 | .block id b,Q,a,H=>ev P Ls b (qi id Q) a H
 | .loop b,Q,a,H =>
  match Ls (gQ b) with
  | none=>False
  | some L =>
   match bM b with
   | true=>∃(I:List Value->ae->Prop) (μ:List Value->ae->Nat),I (dX a L) H ∧
    ∀ vs H',I vs H'->my P (dg b) L a (ev P Ls b (uB (fun a' H''=>I (dX a' L) H''∧μ (dX a' L) H''<μ vs H') Q)) vs H'
   | false=>False
 | .exit id,Q,a,H=>Q (.exit id) a H
 | .ret,Q,a,H=>Q .ret a H
 | .rangeFunc g ps assign body,Q,a,H =>
  match a.eval g with
  | .func (.func gf) first lb=>∀ fn:FuncId,ag P gf ((first++#[.func (.yield (H.size+1)) #[] #[]])++lb) (fun _ H2=>il (H.size+1) (Q .normal a) (Q .ret a) ((fh body).map fun i=>(i,Q (.exit i) a)) H2)
    ((H.push (.deferred (some []))).push (.loop (gg fn a.tmps ps assign body H.size)))
  | _=>False
 | .scope _,_,_,_=>False
 | .goto _,_,_,_=>False
 | .refuse _,_,_,_=>False
def mT (P:Program) (a:Act) (H:ae):List ResultVar->(List Value->Prop)->Prop
 | [],k=>k []
 | .tmp t :: r,k=>mT P a H r fun vs=>k (a.tmps.getD t undef :: vs)
 | .cell x t :: r,k =>
  match a.tmps.getD x undef with
  | .pointer (some ad)=>lj P t ad H fun v _=>mT P a H r fun vs=>k (v :: vs)
  | _=>False
def Cn (P:Program) (fn:Func) (Q:Value->ae->Prop):lG
 | .normal,a,H | .ret,a,H=>mT P a H fn.results.toList fun vs=>match vs with
  | [v]=>Q v H
  | vs=>Q (.tuple vs.toArray) H
 | _,_,_=>False
def rC (P:Program) (f:FuncId) (args:Array Value) (Q:ae->Prop) (H:ae):Prop :=
 (∃ fn,P.funcs[f]?=some fn∧fn.body.isSome=true) ∧
 ∀ (w:World) (u:FrameMode),w.heap=H->CallsDIn Fence.wide 0 P f args u w fun e u' w'=>u'=u∧(∃ v,e=.returned v)∧Q w'.heap∧cv w w'
def fT (n:Nat) (H H':ae):Prop:=H'.size=H.size∧∀ b,H'[b]?=H[b]?∨(n<=b∧H[b]?=some (.deferred (some []))∧H'[b]?=some (.deferred none))
def gH (P:Program) (fn:Func) (m:Bool) (n:Nat) (tmps:Array Value) (Q:Value->ae->Prop):List Deferred->ae->Prop
 | [],H =>
  match m with
  | true=>∀ H',fT n H H'->mT P ⟨tmps,[]⟩ H' fn.results.toList fun vs=>match vs with
   | [v]=>Q v H'
   | vs=>Q (.tuple vs.toArray) H'
  | false=>mT P ⟨tmps,[]⟩ H fn.results.toList fun vs=>match vs with
   | [v]=>Q v H
   | vs=>Q (.tuple vs.toArray) H
 | d :: ds,H =>
  match d.target with
  | .fn (.func g) cap =>
   match m with
   | true=>∀ H',fT n H H'->rC P g (d.args++cap) (fun H''=>gH P fn m n tmps Q ds H'') H'
   | false=>rC P g (d.args++cap) (fun H''=>gH P fn m n tmps Q ds H'') H
  | _=>False
def Cq (P:Program) (fn:Func) (m:Bool) (n:Nat) (Q:Value->ae->Prop):lG
 | .normal,a,H | .ret,a,H=>gH P fn m n a.tmps Q a.defers H
 | _,_,_=>False
def ke (fn:Func) (args:Array Value):Act:={ tmps:=args++Array.replicate (fn.ntmps-args.size) undef,defers:=[] }
structure GoodPg (P:Program):Prop where
 mixed:P.follows .mixedOrders=true
 names : P.funcs.all (fun fn => fn.name != "runtime.NumGoroutine") = true
theorem cK.refl (H:ae):cK H H:=⟨Rw _,fun _ _ h=>h⟩
theorem cK.trans {H H' H'':ae} (h:cK H H') (h':cK H' H''):cK H H'':=⟨Rr h.1 h'.1,fun b ds hb=>h'.2 b ds (h.2 b ds hb)⟩
theorem cK.push (H:ae) (o:Obj):cK H (H.push o):=⟨by simp,fun b ds hb=>by
 have an:b<H.size:=(Rt.1 hb).1;rw [SX,Re (by omega)];exact hb⟩
theorem cK.set (H:ae) (a:Addr) (v:Value):cK H (bc H a v):=⟨by simp [bc],fun b ds hb=>by
 unfold bc;rw [R1];split
 ·rw [hb];rfl
 ·exact hb⟩
theorem cK.freeze (H:ae) (a:Addr) (n:Nat):cK H (dJ H a n):=⟨by unfold dJ;split <;> simp,fun b ds hb=>by
 unfold dJ;split
 ·exact hb
 ·rw [R1];split
  ·rw [hb];rfl
  ·exact hb⟩
theorem cK.setObj {H:ae}{r:Nat}{o o':Obj} (h1:H[r]?=some o') (h2:∀ ds,o'≠.deferred ds):cK H (H.setIfInBounds r o):=⟨by simp,fun b ds hb=>by
 have c9:r≠b:=fun e=>by subst e;rw [h1] at hb;exact h2 ds (Option.some.inj hb)
 rw [Se c9];exact hb⟩
theorem cv.refl (w:World):cv w w:=⟨rfl,rfl,rfl,Rw _,cK.refl _⟩
theorem cv.trans {w w' w'':World} (h:cv w w') (h':cv w' w''):cv w w'':=⟨h'.1.trans h.1,h'.2.1.trans h.2.1,h'.2.2.1.trans h.2.2.1,Rr h.2.2.2.1 h'.2.2.2.1,h.2.2.2.2.trans h'.2.2.2.2⟩
theorem cv.heap {w:World}{H':ae} (h:cK w.heap H'):cv w { w with heap:=H' }:=⟨rfl,rfl,rfl,Rw _,h⟩
theorem kj (P:Program){α:Type} (m:Sem α):∀ (Q:α->ae->Prop) (w:World),cc P m Q w.heap->∃ a w',m.run P w=.ok a w'∧Q a w'.heap∧cv w w':=by
 induction m with
 | pure a=>exact fun Q w h=>⟨a,w,rfl,h,cv.refl w⟩
 | load m a k ih =>
  rintro Q w ⟨v,hv,h⟩;obtain ⟨b,w',hr,hq⟩:=ih v Q w h;exact ⟨b,w',by simp only [Sem.run,show w.cell? a=some v from hv];exact hr,hq⟩
 | store m a v k ih =>
  rintro Q w ⟨h1,⟨⟨v0,h2⟩,h3⟩,h⟩;obtain ⟨b,w',hr,hq,hs⟩:=ih Q (w.setCell a v) h;refine ⟨b,w',?_,hq,(cv.heap (w:=w) (cK.set w.heap a v)).trans hs⟩;have e2:w.cell? a=some v0:=h2;have e3:w.frozen? a=false:=h3;cases v <;> simp only [dw,RY] at h1 <;> simp only [Sem.run,e2,e3,RY,if_false] <;> exact hr
 | new o k ih =>
  intro Q w h;obtain ⟨b,w',hr,hq,hs⟩:=ih w.heap.size Q { w with heap:=w.heap.push o } h;exact ⟨b,w',hr,hq,(cv.heap (w:=w) (cK.push w.heap o)).trans hs⟩
 | shape r k ih=>exact fun Q w h=>ih _ Q w h
 | freeze a n k ih =>
  intro Q w h;have hh:(w.freeze a n).heap=dJ w.heap a n:=by unfold World.freeze dJ;split <;> rfl
  have Dv:cv w (w.freeze a n):=⟨by unfold World.freeze;split <;> rfl,by unfold World.freeze;split <;> rfl,by unfold World.freeze;split <;> rfl,by unfold World.freeze;split <;> exact Rw _,by rw [hh];exact cK.freeze _ _ _⟩;obtain ⟨b,w',hr,hq,hs⟩:=ih Q (w.freeze a n) (by rw [hh];exact h);exact ⟨b,w',hr,hq,Dv.trans hs⟩
 | frozen a k ih=>exact fun Q w h=>ih _ Q w h
 | getObj r k ih =>
  rintro Q w ⟨o,h1,h2,h⟩;obtain ⟨b,w',hr,hq⟩:=ih o Q w h;refine ⟨b,w',?_,hq⟩;cases o <;> simp only [cQ,Bool.true_eq_false] at h2 <;> simp only [Sem.run,h1] <;> exact hr
 | setObj r o k ih =>
  rintro Q w ⟨⟨o',h1,h2⟩,h⟩;obtain ⟨b,w',hr,hq,hs⟩:=ih Q { w with heap:=w.heap.setIfInBounds r o } h;refine ⟨b,w',?_,hq,(cv.heap (w:=w) (cK.setObj h1 fun ds e=>by rw [e] at h2;cases h2)).trans hs⟩;cases o' <;> simp only [cQ,Bool.true_eq_false] at h2 <;> simp only [Sem.run,h1] <;> exact hr
 | choose q k ih =>
  intro Q w h;simp only [cc] at h;split at h
  ·rename_i hf;obtain ⟨b,w',hr,hq⟩:=ih 0 Q w h;exact ⟨b,w',by simp only [Sem.run,hf,if_true];exact hr,hq⟩
  ·rename_i hf;obtain ⟨b,w',hr,hq,hs⟩:=ih _ Q { w with drawn:=w.drawn+1 } (h (w.tape w.drawn q));exact ⟨b,w',by simp only [Sem.run,hf];exact hr,hq,hs.1,hs.2.1,hs.2.2.1,Rr (Tz _) hs.2.2.2.1,hs.2.2.2.2⟩
 | sys c k ih=>exact fun Q w h=>h.elim
 | program k ih=>exact fun Q w h=>ih P Q w h
 | mark m k ih=>exact fun Q w h=>ih Q w h
 | halt h=>exact fun Q w h=>h.elim
theorem tA (P:Program){α:Type} (m:Sem α):∀ (k:α->Prop),yy P m k->∃ a,k a∧∀ w,m.run P w=.ok a w:=by
 induction m with
 | pure a=>exact fun k h=>⟨a,h,fun _=>rfl⟩
 | program c ih=>exact fun k h=>ih P k h
 | mark m c ih=>exact fun k h=>ih k h
 | _=>exact fun k h=>h.elim
theorem iz {d:Option TypeDesc}{k:Value->Prop} (h:lW d k):∃ v,k v:=by
 unfold lW at h;split at h
 ·obtain ⟨_,h⟩:=h;exact ⟨_,h⟩
 ·obtain ⟨_,h⟩:=h;exact ⟨_,h⟩
 ·obtain ⟨_,h⟩:=h;exact ⟨_,h⟩
 ·obtain ⟨_,h⟩:=h;exact ⟨_,h⟩
 ·obtain ⟨_,_,_,h⟩:=h;exact ⟨_,h⟩
 ·obtain ⟨_,h⟩:=h;exact ⟨_,h⟩
 ·obtain ⟨_,_,_,h⟩:=h;exact ⟨_,h⟩
 ·exact h
theorem gX {d:Option TypeDesc}{k:Value->Prop} (h:jF d k):∃ v,k v:=by
 unfold jF at h;split at h
 ·rcases h with ⟨f,g,c,h⟩ | h
  ·exact ⟨_,h⟩
  ·exact ⟨_,h⟩
 ·exact iz h
theorem mm:∀ {l:List (Option TypeDesc)}{k:List Value->Prop},Cl l k->∃ vs,k vs
 | [],_,h=>⟨[],h⟩
 | _ :: _,_,h=>let ⟨_,h⟩:=gX h;let ⟨_,h⟩:=mm h;⟨_,h⟩
theorem jX {P:Program}{t:TypeId}{k:Value->Prop} (h:Bc P t k):∃ v,k v:=by
 unfold Bc at h;split at h
 ·obtain ⟨_,h⟩:=mm h;exact ⟨_,h⟩
 ·obtain ⟨_,h⟩:=mm h;exact ⟨_,h⟩
 ·exact iz h
theorem nT {P:Program}:∀ {l:List TypeId}{k:List Value->Prop},A5 P l k->∃ vs,k vs
 | [],_,h=>⟨[],h⟩
 | _ :: _,_,h=>let ⟨_,h⟩:=jX h;let ⟨_,h⟩:=nT h;⟨_,h⟩
theorem py {P:Program}{t:TypeId}{v:Value}{k:Value->Prop} (h:sq P t v k):k v:=by
 unfold sq at h;split at h
 ·obtain ⟨vs,hv,hk⟩:=nT h;rw [hv];exact hk
 ·obtain ⟨x,hv,hk⟩:=jX h;rw [hv];exact hk
theorem lH {H:ae}{ad:Addr}:∀ {l:List (Option TypeDesc)}{i:Nat}{k:List Value->List (Addr × Value)->Prop},rO H ad i l k ->
  ∃ vs cs,k vs cs∧vs.length=l.length∧gj cs H∧∀ H',gj cs H'->∀ j v,vs[j]?=some v->aj H' (ad.add (i+j))=some v
 | [],_,_,h=>⟨[],[],h,rfl,trivial,fun _ _ j v hv=>by simp at hv⟩
 | d :: r,i,k,h=>by
  obtain ⟨v,hv,h⟩:=gX h;obtain ⟨vs,cs,hk,hl,hc,be⟩:=lH h;refine ⟨_,_,hk,by simp [hl],⟨hv,hc⟩,fun H' ⟨h1,h2⟩ j u hu=>?_⟩;cases j with
  | zero=>simp at hu;subst hu;exact h1
  | succ j=>simp at hu;rw [show i+(j+1)=i+1+j by omega];exact be H' h2 j u hu
theorem jJ (P:Program) (a:Addr) (vs:List Value):∀ (i:Nat) (acc:Array Value) (w:World),
  (∀ j v,vs[j]?=some v->w.cell? (a.add (i+j))=some v)->(loadCellsFrom a i vs.length acc).run P w=.ok (acc++vs.toArray) w:=by
 induction vs with
 | nil=>intro i acc w _;simp [loadCellsFrom]
 | cons v r ih =>
  intro i acc w h;have h0:=h 0 v rfl;simp only [RF,loadCellsFrom,Sem.run_bind,run_load];rw [show a.add i=a.add (i+0) from rfl,h0];simp only [Result.andThen_ok];rw [ih (i+1) (acc.push v) w (fun j u hu=>by rw [show i+1+j=i+(j+1) by omega];exact h (j+1) u (by simpa using hu))];simp
theorem bj {P:Program}{t:TypeId}{d:TypeDesc} (h:P.underlying t=some d) (w:World):(underlying t).run P w=.ok d w:=by
 simp [underlying,h]
theorem iZ {P:Program}{t:TypeId}{i:TypeInfo} (h:P.info? t=some i) (w:World):(typeInfo t).run P w=.ok i w:=by
 simp [typeInfo,h]
theorem cD {P:Program}{t:TypeId}{i:TypeInfo} (h:P.info? t=some i) (w:World):(Go.sizeOf t).run P w=.ok i.size w:=by
 simp [Go.sizeOf,iZ h]
theorem iB {P:Program}{t:TypeId}{ad:Addr}{H:ae}{k:Value->List (Addr × Value)->Prop} (h:lj P t ad H k) :
  ∃ v cs,k v cs∧gj cs H∧∀ w:World,gj cs w.heap->(loadVar t ad).run P w=.ok v w:=by
 have agg:∀ (d:TypeDesc),P.underlying t=some d->(match d with | .struct _ | .array _ _=>true | _=>false)=true ->
   (match decide ((P.info? t).map (·.size)=some (pU P 20 t).length) with
   | true=>rO H ad 0 (pU P 20 t) fun vs cs=>k (.agg vs.toArray) cs
   | false=>False)->∃ v cs,k v cs∧gj cs H∧∀ w:World,gj cs w.heap->(loadVar t ad).run P w=.ok v w:=by
  intro d hd Ly h;split at h
  ·rename_i hs;have hs:=of_decide_eq_true hs;obtain ⟨i,hi,s5⟩:∃ i,P.info? t=some i∧i.size=(pU P 20 t).length:=by
    cases hi:P.info? t with
    | none=>simp [hi] at hs
    | some i=>simp [hi] at hs;exact ⟨i,rfl,hs⟩
   obtain ⟨vs,cs,hk,hl,hc,be⟩:=lH h;refine ⟨_,_,hk,hc,fun w hw=>?_⟩;have Lz:(isAgg t).run P w=.ok true w:=by
    simp only [isAgg,Sem.run_bind,bj hd,Result.andThen_ok];cases d <;> simp at Ly <;> rfl
   simp only [loadVar,Sem.run_bind,Lz,Result.andThen_ok,if_true,cD hi,loadCells];rw [s5,←hl,jJ P ad vs 0 #[] w (fun j v hv=>be w.heap hw j v hv)];simp
  ·exact h.elim
 unfold lj at h;split at h
 ·rename_i fs hd;exact agg _ hd rfl h
 ·rename_i l e hd;exact agg _ hd rfl h
 ·rename_i d LA LB;split at h
  ·rename_i d hd;obtain ⟨v,hv,hk⟩:=gX h;refine ⟨v,_,hk,⟨hv,trivial⟩,fun w hw=>?_⟩;have Lz:(isAgg t).run P w=.ok false w:=by
    simp only [isAgg,Sem.run_bind,bj hd,Result.andThen_ok];cases d with
    | struct fs=>exact absurd hd (by simpa using LA fs)
    | array l e=>exact absurd hd (by simpa using LB l e)
    | _=>rfl
   have hc:w.cell? ad=some v:=hw.1;simp [loadVar,Lz,hc]
  ·exact h.elim
theorem kR {P:Program}{ad:Addr}:∀ {vs:List Value}{i:Nat}{k:ae->Prop}{w:World},ow ad i vs k w.heap ->
  ∃ w',(storeCells ad vs i).run P w=.ok () w'∧k w'.heap∧cv w w'
 | [],_,_,w,h=>⟨w,rfl,h,cv.refl w⟩
 | v :: r,i,k,w,h=>by
  simp only [ow] at h;split at h
  ·rename_i h1;obtain ⟨⟨⟨v0,h2⟩,h3⟩,h⟩:=h;obtain ⟨w',hr,hk,hs⟩:=kR (P:=P) (w:=w.setCell (ad.add i) v) h;refine ⟨w',?_,hk,(cv.heap (w:=w) (cK.set w.heap (ad.add i) v)).trans hs⟩;have e2:w.cell? (ad.add i)=some v0:=h2;have e3:w.frozen? (ad.add i)=false:=h3;have e1:(store (ad.add i) v).run P w=.ok () (w.setCell (ad.add i) v):=by
    cases v <;> simp only [dw,RY] at h1 <;> simp only [store,Sem.run,e2,e3,RY,if_false]
   simp only [storeCells,Sem.run_bind,e1,Result.andThen_ok];exact hr
  ·exact h.elim
theorem oR {P:Program}{t:TypeId}{ad:Addr}{v:Value}{k:ae->Prop}{w:World} (h:om P t ad v k w.heap) :
  ∃ w',(storeVar t ad v).run P w=.ok () w'∧k w'.heap∧cv w w':=by
 unfold om at h;split at h
 ·rename_i hs;have hs:=of_decide_eq_true hs;obtain ⟨i,hi,s5⟩:∃ i,P.info? t=some i∧i.size=v.cells.toList.length:=by
   cases hi:P.info? t with
   | none=>simp [hi] at hs
   | some i=>simp [hi] at hs;exact ⟨i,rfl,by simpa using hs⟩
  obtain ⟨w',hr,hk,hw⟩:=kR (P:=P) h;refine ⟨w',?_,hk,hw⟩;simp only [storeVar,Sem.run_bind,cD hi,Result.andThen_ok];rw [Re (by simp [s5])];exact hr
 ·exact h.elim
theorem vp (P:Program) (m:Sem Value) (w:World):(do pure (Next.value (← m)):Sem Next).run P w=(m.run P w).andThen fun v w'=>.ok (.value v) w':=by
 simp
theorem ip {P:Program}{m:Sem Next}{k:Value->Prop} (h:yy P m (Bb k)):∃ v,k v∧∀ w,m.run P w=.ok (.value v) w:=by
 obtain ⟨nx,h1,h2⟩:=tA P m _ h;cases nx <;> simp only [Bb] at h1;exact ⟨_,h1,h2⟩
theorem gb {P:Program}{e:TypeId} (h:(P.info? e).isSome=true):∃ i,P.info? e=some i∧i.size=iw P e:=by
 cases hi:P.info? e with
 | none=>simp [hi] at h
 | some i=>exact ⟨i,rfl,by simp [iw,hi]⟩
theorem fv (P:Program) (κ:IntKind) (n:Int) (w:World):(asIntOf (.int κ n)).run P w=.ok (κ,n) w:=rfl
theorem mW {P:Program}{t e:TypeId}{base:Option Addr}{len cap:Nat}{κ:IntKind}{i:Int}{b:Addr} (hu:P.underlying t=some (.slice e)) (he:(P.info? e).isSome=true)
  (hi:0<=i∧i<len) (hb:base=some b) (w:World):(Instr.indexAt t (.slice base len cap) (.int κ i)).run P w=.ok (.pointer (some (b.add (i.toNat*iw P e)))) w:=by
 obtain ⟨inf,h1,h2⟩:=gb he;subst hb;simp only [Instr.indexAt,Sem.run_bind,fv,Result.andThen_ok,bj hu,Sem.run_pure,Rj hi,cD h1,h2]
theorem mU {P:Program}{t e:TypeId}{n:Nat}{κ:IntKind}{i:Int}{b:Addr} (hu:P.underlying t=some (.array n e)) (he:(P.info? e).isSome=true)
  (hi:0<=i∧i<(n:Int)) (w:World):(Instr.indexAt t (.pointer (some b)) (.int κ i)).run P w=.ok (.pointer (some (b.add (i.toNat*iw P e)))) w:=by
 obtain ⟨inf,h1,h2⟩:=gb he;simp only [Instr.indexAt,Instr.sureAddr,Sem.run_bind,fv,Result.andThen_ok,bj hu,Sem.run_pure,Rj hi,cD h1,h2]
theorem bP (P:Program) (κ:IntKind) (i:Int) (y:Nat) (c:BoundsCode) (h:0<=i∧i<=y) (w:World):(Instr.sliceBound (.int κ i) y c).run P w=.ok i.toNat w:=by
 simp only [Instr.sliceBound,Sem.run_bind,fv,Result.andThen_ok,Rj h,Sem.run_pure]
theorem gW (a:Option Addr):a.map (·.add 0)=a:=by cases a <;> rfl
theorem qJ {P:Program}{t e:TypeId}{base:Option Addr}{len cap:Nat}{lo hi:Option Value}{k:Value->Prop} (hu:P.underlying t=some (.slice e)) (he:(P.info? e).isSome=true)
  (h:match lo,hi with
    | none,none=>k (.slice base len cap)
    | none,some (.int _ h)=>(0<=h∧h<=(cap:Int))∧k (.slice base h.toNat cap)
    | some (.int _ l),none=>(0<=l∧l<=(len:Int))∧k (.slice (ii base cap l (iw P e)) (len-l.toNat) (cap-l.toNat))
    | some (.int _ l),some (.int _ h)=>((0<=h∧h<=(cap:Int))∧0<=l∧l<=h)∧k (.slice (ii base cap l (iw P e)) (h.toNat-l.toNat) (cap-l.toNat))
    | _,_=>False):∃ v,k v∧∀ w,(Instr.slice t (.slice base len cap) lo hi none).run P w=.ok v w:=by
 obtain ⟨inf,h1,h2⟩:=gb he;split at h
 ·refine ⟨_,h,fun w=>?_⟩;simp only [Instr.slice,Instr.sliceBounds,Sem.run_bind,bj hu,Result.andThen_ok,Sem.run_pure,cD h1,Nat.zero_mul,gW,ite_self,Tt]
 ·refine ⟨_,h.2,fun w=>?_⟩;simp only [Instr.slice,Instr.sliceBounds,Sem.run_bind,bj hu,Result.andThen_ok,Sem.run_pure,cD h1,Nat.zero_mul,gW,ite_self,Tt,bP _ _ _ _ _ h.1]
 ·refine ⟨_,h.2,fun w=>?_⟩;simp only [Instr.slice,Instr.sliceBounds,Sem.run_bind,bj hu,Result.andThen_ok,Sem.run_pure,cD h1,bP _ _ _ _ _ h.1,ii,h2]
 ·rename_i l _ h';refine ⟨_,h.2,fun w=>?_⟩;have hb:0<=l∧l<=((h'.toNat:Nat):Int):=⟨h.1.2.1,by have:=h.1.1.1;have:=h.1.2.2;omega⟩;simp only [Instr.slice,Instr.sliceBounds,Sem.run_bind,bj hu,Result.andThen_ok,Sem.run_pure,cD h1,bP _ _ _ _ _ h.1.1,bP _ _ _ _ _ hb,ii,h2]
 ·exact h.elim
theorem tP {P:Program}{t:TypeId}{s:ByteArray}{lo hi:Option Value}{k:Value->Prop} (hu:P.underlying t=some .string)
  (h:match lo,hi with
   | none,none=>k (.string (s.extract 0 s.size))
   | none,some (.int _ h)=>(0<=h∧h<=(s.size:Int))∧k (.string (s.extract 0 h.toNat))
   | some (.int _ l),none=>(0<=l∧l<=(s.size:Int))∧k (.string (s.extract l.toNat s.size))
   | some (.int _ l),some (.int _ h)=>((0<=h∧h<=(s.size:Int))∧0<=l∧l<=h)∧k (.string (s.extract l.toNat h.toNat))
   | _,_=>False):∃ v,k v∧∀ w,(Instr.slice t (.string s) lo hi none).run P w=.ok v w:=by
 split at h
 ·refine ⟨_,h,fun w=>?_⟩;simp only [Instr.slice,Instr.sliceBounds,Sem.run_bind,bj hu,Result.andThen_ok,Sem.run_pure,SZ,RY,if_false]
 ·refine ⟨_,h.2,fun w=>?_⟩;simp only [Instr.slice,Instr.sliceBounds,Sem.run_bind,bj hu,Result.andThen_ok,Sem.run_pure,bP _ _ _ _ _ h.1,SZ,RY,if_false]
 ·refine ⟨_,h.2,fun w=>?_⟩;simp only [Instr.slice,Instr.sliceBounds,Sem.run_bind,bj hu,Result.andThen_ok,Sem.run_pure,bP _ _ _ _ _ h.1,SZ,RY,if_false]
 ·rename_i l _ h';refine ⟨_,h.2,fun w=>?_⟩;have hb:0<=l∧l<=((h'.toNat:Nat):Int):=⟨h.1.2.1,by have:=h.1.1.1;have:=h.1.2.2;omega⟩;simp only [Instr.slice,Instr.sliceBounds,Sem.run_bind,bj hu,Result.andThen_ok,Sem.run_pure,bP _ _ _ _ _ h.1.1,bP _ _ _ _ _ hb,SZ,RY,if_false]
 ·exact h.elim
def kV:Value->Value->Bool
 | .nilIface,.nilIface | .agg _,.agg _=>false
 | _,_=>true
theorem io (P:Program) (op:BinOp) (t:TypeId) (x y:Operand) (a b:Value) (h:kV a b=true) (w:World) :
  (eqGuard op t x y a b).run P w=.ok () w:=by
 unfold eqGuard;cases op <;> simp <;> cases a <;> cases b <;> simp [kV] at h ⊢
theorem oC {P:Program}{t e:TypeId} (hu:P.underlying t=some (.pointer e)) (p:Option Addr) (w:World) (d:Nat):(Op.equalIn (d+1) t (.pointer p) (.pointer none)).run P w=.ok p.isNone w:=by
 cases p <;> simp only [Op.equalIn,Sem.run_bind,bj hu,Result.andThen_ok,Sem.run_pure,Ri,Rf]
theorem ng {P:Program}{t e:TypeId} (hu:P.underlying t=some (.pointer e)) (p:Option Addr) (w:World):(Op.equal t (.pointer p) (.pointer none)).run P w=.ok p.isNone w:=oC hu p w 9999
theorem mS {P:Program}{t e:TypeId} (hu:P.underlying t=some (.slice e)) (p:Option Addr) (l c l' c':Nat) (w:World) (d:Nat):(Op.equalIn (d+1) t (.slice p l c) (.slice none l' c')).run P w=.ok p.isNone w:=by
 cases p <;> simp only [Op.equalIn,Sem.run_bind,bj hu,Result.andThen_ok,Sem.run_pure,Ri,Rf]
theorem mg {P:Program}{t e:TypeId} (hu:P.underlying t=some (.slice e)) (p:Option Addr) (l c l' c':Nat) (w:World):(Op.equal t (.slice p l c) (.slice none l' c')).run P w=.ok p.isNone w:=mS hu p l c l' c' w 9999
theorem mX {P:Program}{t a b:TypeId} (hu:P.underlying t=some (.map a b)) (p:Option Nat) (w:World) (d:Nat):(Op.equalIn (d+1) t (.map p) (.map none)).run P w=.ok p.isNone w:=by
 cases p <;> simp only [Op.equalIn,Sem.run_bind,bj hu,Result.andThen_ok,Sem.run_pure,Ri,Rf]
theorem mu {P:Program}{t a b:TypeId} (hu:P.underlying t=some (.map a b)) (p:Option Nat) (w:World):(Op.equal t (.map p) (.map none)).run P w=.ok p.isNone w:=mX hu p w 9999
theorem oK {P:Program}{dst:Option Tmp}{type t u:TypeId}{pos:String}{after:Array Edge}{guard:Option (Nat × Bool)}{x y:Operand}{ρ:Operand->Value}{b:Bool}{va vb:Value} (hx:ρ x=va) (hy:ρ y=vb)
  (hg:kV va vb=true)
  (hn:Go.binOp .eql t va vb=(do pure (.bool (← Op.equal t va vb)))) (w:World) (h:(Op.equal t va vb).run P w=.ok b w) :
  (execOp ρ ⟨dst,.binOp .eql t x y u,type,pos,after,guard⟩).run P w=.ok (.value (.bool b)) w:=by
 show Sem.run P (do pure (Next.value (← (do eqGuard .eql t x y (ρ x) (ρ y);Go.binOp .eql t (ρ x) (ρ y)))):Sem Next) w=_;rw [hx,hy,hn];simp only [Sem.run_bind,io _ _ _ _ _ _ _ hg,Result.andThen_ok,h,Sem.run_pure]
theorem oX {P:Program}{dst:Option Tmp}{type t u:TypeId}{pos:String}{after:Array Edge}{guard:Option (Nat × Bool)}{x y:Operand}{ρ:Operand->Value}{b:Bool}{va vb:Value} (hx:ρ x=va) (hy:ρ y=vb)
  (hg:kV va vb=true)
  (hn:Go.binOp .neq t va vb=(do pure (.bool (!(← Op.equal t va vb))))) (w:World) (h:(Op.equal t va vb).run P w=.ok b w) :
  (execOp ρ ⟨dst,.binOp .neq t x y u,type,pos,after,guard⟩).run P w=.ok (.value (.bool (!b))) w:=by
 show Sem.run P (do pure (Next.value (← (do eqGuard .neq t x y (ρ x) (ρ y);Go.binOp .neq t (ρ x) (ρ y)))):Sem Next) w=_;rw [hx,hy,hn];simp only [Sem.run_bind,io _ _ _ _ _ _ _ hg,Result.andThen_ok,h,Sem.run_pure]
theorem jx {P:Program}{o:Oper}{ρ:Operand->Value}{k:Value->Prop} (h:fR P o ρ k):∃ v,k v∧∀ w,(execOp ρ o).run P w=.ok (.value v) w:=by
 obtain ⟨dst,op,type,pos,after,guard⟩:=o;cases op
 case pick c x y =>
  simp only [fR] at h;split at h
  ·rename_i b hb;cases b
   ·exact ⟨_,h,fun w=>by simp [execOp,hb,asBool]⟩
   ·exact ⟨_,h,fun w=>by simp [execOp,hb,asBool]⟩
  ·exact h.elim
 case nilCheck x =>
  simp only [fR] at h;split at h
  ·rename_i p hp;obtain ⟨ad,rfl,h⟩:=h;exact ⟨_,h,fun w=>by simp [execOp,hp]⟩
  ·exact ip h
 case indexAddr t x i =>
  simp only [fR] at h;split at h
  ·rename_i e base len cap κ i hu hx hi;split at h
   ·rename_i he;obtain ⟨hb,b,I1,h⟩:=h;exact ⟨_,h,fun w=>by simp only [execOp,vp,hx,hi,mW hu he hb I1,Result.andThen_ok]⟩
   ·exact h.elim
  ·rename_i n e b κ i hu hx hi;split at h
   ·rename_i he;obtain ⟨hb,h⟩:=h;exact ⟨_,h,fun w=>by simp only [execOp,vp,hx,hi,mU hu he hb,Result.andThen_ok]⟩
   ·exact h.elim
  ·exact h.elim
 case index t x i =>
  simp only [fR] at h;split at h
  ·rename_i s κ i hu hx hi;obtain ⟨b,⟨h0,hb⟩,h⟩:=h;refine ⟨_,h,fun w=>?_⟩;simp only [execOp,hx,hi,Instr.index,Sem.run_bind,fv,Result.andThen_ok,bj hu,Rj h0,hb,Sem.run_pure]
  ·rename_i len e cs κ i hu hx hi;split at h
   ·rename_i h1;obtain ⟨hb,h⟩:=h;obtain ⟨v,hv,h⟩:=iz h;refine ⟨_,h,fun w=>?_⟩;obtain ⟨d,hd,Ly,inf,IJ,DO⟩:∃ d,P.underlying e=some d∧(isAgg e).run P w=.ok false w∧∃ inf,P.info? e=some inf∧inf.size=1:=by
     unfold BN at h1;split at h1
     ·cases h1
     ·cases h1
     ·cases h1
     ·rename_i d LA LB hd;have h1:=of_decide_eq_true h1;refine ⟨d,hd,?_,?_⟩
      ·simp only [isAgg,Sem.run_bind,bj hd,Result.andThen_ok];cases d with
       | struct fs=>exact absurd hd (by simpa using LA fs)
       | array l e=>exact absurd hd (by simpa using LB l e)
       | _=>rfl
      ·cases hi:P.info? e with
       | none=>simp [hi] at h1
       | some i=>simp [hi] at h1;exact ⟨i,rfl,h1⟩
    simp only [execOp,hx,hi,Instr.index,Sem.run_bind,fv,Result.andThen_ok,bj hu,Rj hb,cD IJ,DO,Rn,part,Ly,RY,if_false,hv,Sem.run_pure]
   ·exact ip h
  ·exact h.elim
 case slice t x lo hi mx =>
  cases mx with
  | some m =>
   cases hi with
   | none=>simp only [fR] at h;exact ip h
   | some hi =>
    simp only [fR] at h;split at h
    ·rename_i e base len cap κ h' κ' m' hu hx N8 hm;split at h
     ·rename_i he;obtain ⟨inf,h1,h2⟩:=gb he;split at h
      ·rename_i D4;have hb:0<=h'∧h'<=((m'.toNat:Nat):Int):=⟨h.1.2.1,by have:=h.1.1.1;have:=h.1.2.2;omega⟩;refine ⟨_,h.2,fun w=>?_⟩;simp only [execOp,hx,N8,hm,D4,Instr.sliceAt,Instr.slice,Instr.sliceBounds,Sem.run_bind,bj hu,Result.andThen_ok,SM,Sem.run_pure,cD h1,bP _ _ _ _ _ h.1.1,bP _ _ _ _ _ hb,Nat.zero_mul,gW,ite_self,Tt]
      ·rename_i l D4;have hb:0<=h'∧h'<=((m'.toNat:Nat):Int):=⟨h.1.1.2.1,by have:=h.1.1.1.1;have:=h.1.1.2.2;omega⟩;have Hh:0<=l∧l<=((h'.toNat:Nat):Int):=⟨h.1.2.1,by have:=h.1.2.2;have:=h.1.1.2.1;omega⟩;refine ⟨_,h.2,fun w=>?_⟩;simp only [execOp,hx,N8,hm,D4,Instr.sliceAt,Instr.slice,Instr.sliceBounds,Sem.run_bind,bj hu,Result.andThen_ok,SM,Sem.run_pure,cD h1,bP _ _ _ _ _ h.1.1.1,bP _ _ _ _ _ hb,bP _ _ _ _ _ Hh,ii,h2]
      ·exact h.elim
     ·exact h.elim
    ·exact h.elim
  | none =>
   simp only [fR] at h;split at h
   ·rename_i e base len cap hu hx;split at h
    ·rename_i he;obtain ⟨v,hk,hr⟩:=qJ hu he h;refine ⟨v,hk,fun w=>?_⟩;simp only [execOp,hx,Instr.sliceAt,Sem.run_bind,bj hu,Result.andThen_ok,S1,hr,Sem.run_pure]
    ·exact h.elim
   ·rename_i s hu hx;obtain ⟨v,hk,hr⟩:=tP hu h;refine ⟨v,hk,fun w=>?_⟩;simp only [execOp,hx,Instr.sliceAt,Sem.run_bind,bj hu,Result.andThen_ok,S1,hr,Sem.run_pure]
   ·exact h.elim
 case binOp op t x y u =>
  simp only [fR] at h;split at h
  ·rename_i e p hu hx hy;exact ⟨_,h,fun w=>oK hx hy rfl rfl w (ng hu p w)⟩
  ·rename_i e p hu hx hy;exact ⟨_,h,fun w=>oX hx hy rfl rfl w (ng hu p w)⟩
  ·rename_i hu hx hy;exact ⟨_,h,fun w=>oK hx hy rfl rfl w (mg hu _ _ _ _ _ w)⟩
  ·rename_i hu hx hy;exact ⟨_,h,fun w=>oX hx hy rfl rfl w (mg hu _ _ _ _ _ w)⟩
  ·rename_i hu hx hy;exact ⟨_,h,fun w=>oK hx hy rfl rfl w (mu hu _ w)⟩
  ·rename_i hu hx hy;exact ⟨_,h,fun w=>oX hx hy rfl rfl w (mu hu _ w)⟩
  ·rename_i κ x' κ' y' hx hy;split at h
   ·rename_i hk;have hk:=of_decide_eq_true hk;subst hk;by_cases Da:y'=0
    ·simp [Da] at h
    ·simp only [Da,decide_false,Rh] at h;exact ⟨_,h,fun w=>by simp [execOp,hx,hy,eqGuard,Go.binOp,Op.intDiv,Da]⟩
   ·exact h.elim
  ·rename_i κ x' κ' y' hx hy;split at h
   ·rename_i hk;have hk:=of_decide_eq_true hk;subst hk;by_cases Da:y'=0
    ·simp [Da] at h
    ·simp only [Da,decide_false,Rh] at h;exact ⟨_,h,fun w=>by simp [execOp,hx,hy,eqGuard,Go.binOp,Op.intDiv,Da]⟩
   ·exact h.elim
  ·rename_i κ x' κ' y' hx hy;by_cases Da:y'<0
   ·simp [Da] at h
   ·simp only [Da,decide_false,Rh] at h;exact ⟨_,h,fun w=>by simp [execOp,hx,hy,eqGuard,Go.binOp,Op.shift,Da,jw]⟩
  ·rename_i κ x' κ' y' hx hy;by_cases Da:y'<0
   ·simp [Da] at h
   ·simp only [Da,decide_false,Rh] at h;exact ⟨_,h,fun w=>by simp [execOp,hx,hy,eqGuard,Go.binOp,Op.shift,Da,kg]⟩
  ·rename_i x' y' hx hy;by_cases Da:((x'.size+y'.size:Nat):Int) > IntKind.i64.max
   ·simp only [Da,decide_true,Rs] at h
   ·simp only [Da,decide_false,Rh] at h;exact ⟨_,h,fun w=>by simp only [execOp,hx,hy,Sem.run_bind,eqGuard,Go.binOp,Op.stringOp];simp only [Da];simp⟩
  ·exact ip h
 all_goals exact ip h
theorem fi {P:Program}{o:Oper}{a:Act}{next:Act->World->Prop}{Q:Exit->Act->World->Prop}{r:Result Next}{v:Value}{w:World} (hr:r=.ok (.value v) w) (h:next (a.put o.dst v) w):o.upon P a next Q r:=by
 subst hr;exact h
theorem nN {P:Program}{o:Oper}{a:Act}{next:Act->World->Prop}{Q:Exit->Act->World->Prop}{r:Result Next}{w:World} (hr:r=.ok .skip w) (h:next (a.put o.dst undef) w):o.upon P a next Q r:=by
 subst hr;exact h
theorem od {P:Program}{m:Sem Value}{w w':World}{v:Value} (h:m.run P w=.ok v w'):(do pure (Next.value (← m)):Sem Next).run P w=.ok (.value v) w':=by
 simp only [Sem.run_bind,h,Result.andThen_ok,Sem.run_pure]
theorem yL {P:Program}{m:Sem Unit}{w w':World} (h:m.run P w=.ok () w'):(do m;pure Next.skip:Sem Next).run P w=.ok .skip w':=by
 simp only [Sem.run_bind,h,Result.andThen_ok,Sem.run_pure]
theorem cz {P:Program}{o:Oper}{a:Act}{next:Act->World->Prop}{Q:Exit->Act->World->Prop}{m:Sem Value}{k:Value->ae->Prop}{w:World}
  (he:execOp a.eval o=(do pure (Next.value (← m)))) (h:cc P m k w.heap) (hk:∀ v w',k v w'.heap->cv w w'->next (a.put o.dst v) w'):o.wp P a w next Q:=by
 obtain ⟨v,w',hr,hq,hs⟩:=kj P m k w h;unfold Oper.wp;rw [he];exact fi (od hr) (hk v w' hq hs)
theorem lL {P:Program}{o:Oper}{a:Act}{next:Act->World->Prop}{Q:Exit->Act->World->Prop}{m:Sem Unit}{k:ae->Prop}{w:World}
  (he:execOp a.eval o=(do m;pure Next.skip)) (h:cc P m (fun _=>k) w.heap) (hk:∀ w',k w'.heap->cv w w'->next (a.put o.dst undef) w'):o.wp P a w next Q:=by
 obtain ⟨v,w',hr,hq,hs⟩:=kj P m _ w h;unfold Oper.wp;rw [he];exact nN (yL hr) (hk w' hq hs)
theorem gJ {P:Program} (hP:GoodPg P){g:FuncId}{fn:Func} (hf:P.funcs[g]?=some fn) (hb:fn.body.isSome=true) (args:Array Value) (w:World) :
  (callFunc g args).run P w=.ok (.enter g args) w:=by
 have hn : (fn.name == "runtime.NumGoroutine") = false := by
  have:=Array.all_eq_true_iff_forall_mem.1 hP.names fn (Ts hf);simpa using this
 have er:fn.body.isNone=false:=by cases h:fn.body <;> simp [h] at hb ⊢
 simp only [callFunc,Sem.run_bind,run_program,Result.andThen_ok,hf,hn,er,RY,if_false,Sem.run_pure]
theorem rf {P:Program} (hP:GoodPg P){o:Oper}{a:Act}{k:Value->ae->Prop}{w:World}{next:Act->World->Prop}{Q:Exit->Act->World->Prop}
  (h:rt P o a.eval k w.heap) (hk:∀ v w',k v w'.heap->cv w w'->next (a.put o.dst v) w'):o.wp P a w next Q:=by
 unfold rt at h;split at h
 ·obtain ⟨v,hv,hr⟩:=jx h;unfold Oper.wp;exact fi (hr w) (hk v w hv (cv.refl w))
 ·rename_i Hi;clear Hi;obtain ⟨dst,op,type,pos,after,guard⟩:=o;have Dz:∀ v w',sq P type v (fun x=>k x w'.heap)->cv w w'->next (a.put dst v) w':=fun v w' h hs=>hk v w' (py h) hs
  cases op <;> simp only [] at h
  case load t x =>
   split at h
   ·rename_i ad hx;obtain ⟨v,cs,hv,hc,hr⟩:=iB h;unfold Oper.wp;refine fi (v:=v) (w:=w) ?_ (hk v w hv (cv.refl w));refine od ?_;simp only [hx,Instr.loadAt,Instr.sureAddr,Sem.run_bind,Sem.run_pure,Result.andThen_ok];exact hr w hc
   ·exact h.elim
  case store t x v =>
   split at h
   ·rename_i ad hx;obtain ⟨w',hr,hq,hs⟩:=oR h;unfold Oper.wp;refine nN (w:=w') ?_ (hk undef w' hq hs);refine yL ?_;simp only [hx,Instr.storeAt,Instr.sureAddr,Sem.run_bind,Sem.run_pure,Result.andThen_ok];exact hr
   ·exact h.elim
  case alloc e =>
   split at h
   ·rename_i z hz;obtain ⟨i,hi,O8⟩:∃ i,P.info? e=some i∧i.zero=some z:=by
     cases hi:P.info? e with
     | none=>simp [hi] at hz
     | some i=>simp [hi] at hz;exact ⟨i,rfl,hz⟩
    unfold Oper.wp;refine fi (v:=.pointer (some ⟨w.heap.size,0,none⟩)) (w:={ w with heap:=w.heap.push (.cells z.cells e) }) ?_ (hk _ _ h (cv.heap (cK.push _ _)));refine od ?_;simp only [Instr.alloc,zeroValue,Sem.run_bind,iZ hi,Result.andThen_ok,O8,Sem.run_pure,newVar,newRow,run_newObj]
   ·exact h.elim
  case box e x =>
   unfold Oper.wp;refine fi (v:=.pointer (some ⟨w.heap.size,0,none⟩)) (w:={ w with heap:=w.heap.push (.cells (a.eval x).cells e) }) ?_ (hk _ _ h (cv.heap (cK.push _ _)));refine od ?_;simp only [Instr.box,Sem.run_bind,Result.andThen_ok,Sem.run_pure,newVar,newRow,run_newObj]
  case buildSlice t len parts=>exact cz rfl h hk
  case makeMap t r =>
   cases r with
   | some r=>exact h.elim
   | none =>
    unfold Oper.wp;refine fi (v:=.map (some w.heap.size)) (w:={ w with heap:=w.heap.push (.map #[] 0) }) ?_ (hk _ _ h (cv.heap (cK.push _ _)));rfl
  case makeSlice t l c=>exact cz rfl h Dz
  case lookup t m key ok=>exact cz rfl h Dz
  case mapUpdate t m key x=>exact lL rfl h (hk undef)
  case insert t m key x=>exact lL rfl h (hk undef)
  case mapEntry t m key=>exact cz rfl h hk
  case entryStore t m s x=>exact lL rfl h (hk undef)
  case range t x=>exact cz rfl h hk
  case next it s =>
   refine cz rfl h fun v w' hv hs=>?_;rcases hv with ⟨rfl,hv⟩ | ⟨x,y,rfl,hv⟩
   ·exact hk _ w' hv hs
   ·exact hk _ w' hv hs
  case convert src dst x=>exact cz rfl h Dz
  case binOp op t x y u=>exact cz rfl h Dz
  case call c =>
   obtain ⟨callee,args,argTypes⟩:=c;cases callee <;> simp only [] at h
   case value f =>
    split at h
    ·rename_i g first cap hf
     obtain ⟨⟨fn,hfn,hb⟩,hc⟩:=h;have Ef:(execOp a.eval ⟨dst,.call ⟨.value f,args,argTypes⟩,type,pos,after,guard⟩).run P w=.ok (.enter g ((first++args.map a.eval)++cap)) w:=by
      show Sem.run P (do let d ← resolve a.eval ⟨.value f,args,argTypes⟩ type;invoke d.target d.args) w=_;simp only [resolve,hf,Deferred.ofValue,Sem.run_bind,Sem.run_pure,Result.andThen_ok,invoke];exact gJ hP hfn hb _ w
     unfold Oper.wp;rw [Ef,Oper.upon_enter];refine (hc w rfl).mono ?_;rintro e w' ⟨v,rfl,hv,hs⟩;exact Dz v w' hv hs
    ·exact h.elim
   case builtin b =>
    cases b <;> simp only [] at h
    case append=>exact cz rfl h Dz
    case copy=>exact cz rfl h Dz
    case len=>exact cz rfl h Dz
    case unsafeSliceData=>exact cz rfl h Dz
    case unsafeString=>exact cz rfl h Dz
    case clear=>exact cz rfl h hk
    case delete=>exact cz rfl h hk
    all_goals exact h.elim
  all_goals exact h.elim
abbrev FR (r:Option Nat):Fence:={ fn:=fun _=>True,depth:=none,alive:=false,round:=r }
theorem ml {r:Option Nat}{n:Nat}{P:Program}{f:FuncId}{args:Array Value}{w:World}{R:Ending->World->Prop} (h:Calls P f args w R):CallsIn (FR r) n P f args w R:=by
 cases r with
 | none=>exact callsIn_wide.2 h
 | some l=>exact callsIn_wide (n:=n).2 h
theorem tO {r:Option Nat}{n:Nat}{P:Program}{row:String}{args:Array Value}{w:World}{R:Value->World->Prop} (h:Rows P row args w R):RowsIn (FR r) n P row args w R:=by
 intro c cs _;obtain ⟨v,w',hr,hs⟩:=h c cs;refine ⟨v,w',hr,?_⟩;cases r with
 | none=>exact stepsIn_wide.2 hs
 | some l=>exact stepsIn_wide.2 hs
theorem rv {r:Option Nat}{n:Nat}{P:Program}{l:Nat}{f:FuncId}{tmps:Array Value}{assign body:Code}{w:World}{R:Ending->World->Prop} (h:RoundIn Fence.wide 0 P l f tmps assign body w R):RoundIn (FR r) n P l f tmps assign body w R:=by
 refine ⟨trivial,fun c cs _=>?_⟩;obtain ⟨e,w',hR,hs⟩:=h.2 c cs (room_wide _);refine ⟨e,w',hR,?_⟩;cases r with
 | none=>exact hs
 | some l=>exact hs
theorem vI {P:Program}{r:Option Nat}{n:Nat}{o:Oper}{a:Act}{next:Act->World->Prop}{Q:Exit->Act->World->Prop}:∀ {res:Result Next},o.upon P a next Q res->o.uponIn (FR r) n P a next Q res:=by
 intro res h;unfold Oper.upon at h;unfold Oper.uponIn;split at h
 ·exact h
 ·exact h
 ·exact h
 ·exact ⟨fun h=>(by cases h),ml h⟩
 ·exact ⟨fun h=>(by cases h),tO h⟩
 ·exact h
 ·exact h.elim
theorem BW {P:Program}{r:Option Nat}{n:Nat}{o:Oper}{a:Act}{w:World}{next:Act->World->Prop}{Q:Exit->Act->World->Prop} (hd:∀ c,o.op≠.defer c) (h:o.wp P a w next Q):o.wpIn (FR r) n P a w next Q:=by
 refine ⟨fun _ _=>trivial,?_⟩;rw [Oper.semAt_eq _ _ _ hd];exact vI h
abbrev Act.re (a:Act) (dr:List Deferred):Act:=⟨a.tmps,dr⟩
theorem fZ (a:Act) (dr:List Deferred):(Act.re a dr).eval=a.eval:=by
 funext x;cases x <;> rfl
theorem kn (a:Act) (dr:List Deferred) (d:Option Tmp) (v:Value):(Act.re a dr).put d v=Act.re (a.put d v) dr:=by
 cases d <;> rfl
inductive MixD (n:Nat) (H:ae):List Deferred->List Deferred->List Nat->Prop
 | nil:MixD n H [] [] []
 | mark {D:Nat}{dr da:List Deferred}{l:List Nat}:H[D]?=some (.deferred (some []))->n<=D->D∉l->MixD n H dr da l->MixD n H (⟨.collected D,#[]⟩ :: dr) da (D :: l)
 | call {d:Deferred}{dr da:List Deferred}{l:List Nat}:MixD n H dr da l->MixD n H (d :: dr) (d :: da) l
theorem MixD.keep {n:Nat}{H H':ae}{dr da:List Deferred}{l:List Nat} (h:MixD n H dr da l) (hk:cK H H'):MixD n H' dr da l:=by
 induction h with
 | nil=>exact .nil
 | mark h1 h2 h3 _ ih=>exact .mark (hk.2 _ _ h1) h2 h3 ih
 | call _ ih=>exact .call ih
theorem MixD.lt {n:Nat}{H:ae}{dr da:List Deferred}{l:List Nat} (h:MixD n H dr da l):∀ D∈l,n<=D∧H[D]?=some (.deferred (some [])):=by
 induction h with
 | nil=>simp
 | mark h1 h2 h3 _ ih =>
  intro D hD;rcases Rk.1 hD with rfl | hD
  ·exact ⟨h2,h1⟩
  ·exact ih D hD
 | call _ ih=>exact ih
def bY (ws:List Nat) (nd:Bool) (a a':Act):Prop:=a'.tmps.size=a.tmps.size∧(nd=true->a'.defers=a.defers)∧∀ i,i∉ws->a'.tmps[i]?=a.tmps[i]?
theorem bY.refl (ws:List Nat) (nd:Bool) (a:Act):bY ws nd a a:=⟨rfl,fun _=>rfl,fun _ _=>rfl⟩
theorem bY.trans {ws:List Nat}{nd:Bool}{a a' a'':Act} (h:bY ws nd a a') (h':bY ws nd a' a''):bY ws nd a a'' :=
 ⟨h'.1.trans h.1,fun hn=>(h'.2.1 hn).trans (h.2.1 hn),fun i hi=>(h'.2.2 i hi).trans (h.2.2 i hi)⟩
theorem bY.mono {ws ws':List Nat}{nd nd':Bool}{a a':Act} (h:bY ws nd a a') (hs:∀ i∈ws,i∈ws') (hn:nd'=true->nd=true):bY ws' nd' a a' :=
 ⟨h.1,fun h1=>h.2.1 (hn h1),fun i hi=>h.2.2 i fun hm=>hi (hs i hm)⟩
theorem bY.put {ws:List Nat}{nd:Bool}{a:Act}{dst:Option Tmp}{v:Value} (h:∀ d,dst=some d->d∈ws):bY ws nd a (a.put dst v):=by
 cases dst with
 | none=>exact bY.refl ws nd a
 | some d =>
  refine ⟨by simp [Act.put],fun _=>rfl,fun i hi=>?_⟩
  have:d≠i:=fun e=>hi (e ▸ h d rfl);simp [Act.put,Se this]
theorem gv {a:Act}{d:Nat}{v:Value} (h:a.tmps[d]?=some v):a.put (some d) v=a:=by
 obtain ⟨tmps,defers⟩:=a;simp only [Act.put] at h ⊢
 congr 1
 obtain ⟨hd,hv⟩:=Rt.1 h;apply TR (by simp);intro i h1 h2;rw [Array.getElem_setIfInBounds (by simpa using h2)];split
 ·rename_i e;subst e;exact hv.symm
 ·rfl
theorem gT {ops:Array Oper}{o:Oper}{a:Act}{yes no:Act->Prop} (h:jR ops o a yes no) :
  (Region.wanted o (yielded ops a.tmps)=true∧yes a)∨(Region.wanted o (yielded ops a.tmps)=false∧no a):=by
 unfold jR at h;unfold Region.wanted;split at h
 ·rename_i hg;rw [hg];exact .inl ⟨rfl,h⟩
 ·rename_i j want hg;rw [hg];dsimp only;split at h
  ·rename_i hd;refine .inr ⟨?_,h⟩;simp [yielded,hd]
  ·rename_i d hd;have hy:yielded ops a.tmps j=match a.tmps[d]? with | some (.bool b)=>some b | _=>none:=by
    unfold yielded;rw [hd];rfl
   split at h
   ·rename_i b hb;rw [hy,hb];cases b
    ·rw [Rh] at h;cases want
     ·exact .inl ⟨rfl,by simpa only [gv hb] using h⟩
     ·exact .inr ⟨rfl,by simpa only [gv hb] using h⟩
    ·rw [Rs] at h;cases want
     ·exact .inr ⟨rfl,by simpa only [gv hb] using h⟩
     ·exact .inl ⟨rfl,by simpa only [gv hb] using h⟩
   ·rename_i hb;rw [hy,hb];exact .inr ⟨rfl,h⟩
   ·rename_i hb;rw [hy,hb];exact .inr ⟨rfl,h⟩
   ·exact h.elim
theorem put_defers (a:Act) (d:Option Tmp) (v:Value):(a.put d v).defers=a.defers:=by cases d <;> rfl
theorem mZ {P:Program}{o:Oper}{ρ:Operand->Value}{k:Value->ae->Prop}{H:ae} (h:rt P o ρ k H):∀ c,o.op≠.defer c:=by
 intro c hc;obtain ⟨dst,op,type,pos,after,guard⟩:=o;simp only at hc;subst hc;exact h
theorem nL {P:Program}{t:Option TypeId}{k:Value->Prop} (h:yY P t k):∃ v,k v:=by
 cases t with
 | none=>exact h
 | some t=>exact jX h
theorem jV {P:Program} (hP:GoodPg P){r:Option Nat}{n:Nat}{ops:Array Oper}{o:Oper}{a:Act}{dr:List Deferred}{l:List Nat}{m:Nat}{k:Act->ae->Prop}{w:World}{next:Act->World->Prop}{Q:Exit->Act->World->Prop}{ws:List Nat}
  (hd:∀ d,o.dst=some d->d∈ws) (hr:r=none∨dE o=false) (hm:MixD m w.heap dr a.defers l) (h:oD P ops o a k w.heap)
  (hk:∀ a' dr' w',k a' w'.heap->cv w w'->bY ws (!dE o) a a'->MixD m w'.heap dr' a'.defers l->next (Act.re a' dr') w'):o.wpIn (FR r) n P (Act.re a dr) w next Q:=by
 have plain:rt P o a.eval (fun v H'=>k (a.put o.dst v) H') w.heap->o.wpIn (FR r) n P (Act.re a dr) w next Q:=by
  intro h;refine BW (mZ h) (rf hP (a:=Act.re a dr) (by rw [fZ];exact h) fun v w' hv hs=>?_);rw [kn];exact hk _ dr w' hv hs (bY.put hd) (by rw [put_defers];exact hm.keep hs.2.2.2.2)
 unfold oD at h;split at h
 ·rename_i c Db;split at h
  ·rename_i f hf;split at h
   ·rename_i g first cap LC
    have LD:r=none:=hr.resolve_right (by simp [dE,Db]);subst LD;refine ⟨fun _ _=>trivial,?_⟩;have Ef:(o.semAt none (Act.re a dr).eval).run P w=.ok (.defer ⟨.fn (.func g) cap,first++c.args.map a.eval⟩) w:=by
     rw [Oper.semAt_none,fZ];obtain ⟨dst,op,type,pos,after,guard⟩:=o;simp only at Db;subst Db;obtain ⟨callee,args,argTypes⟩:=c;simp only at hf;subst hf;simp only [execOp,resolve,LC,Deferred.ofValue,Sem.run_bind,Sem.run_pure,Result.andThen_ok]
    show o.uponIn (FR none) n P (Act.re a dr) next Q ((o.semAt none (Act.re a dr).eval).run P w)
    rw [Ef,Oper.uponIn_defer];have e:({ Act.re a dr with defers:=⟨.fn (.func g) cap,first++c.args.map a.eval⟩ :: dr }:Act).put o.dst undef=Act.re (({ a with defers:=⟨.fn (.func g) cap,first++c.args.map a.eval⟩ :: a.defers }:Act).put o.dst undef) (⟨.fn (.func g) cap,first++c.args.map a.eval⟩ :: dr):=by
     cases o.dst <;> rfl
    show next (({ Act.re a dr with defers:=⟨.fn (.func g) cap,first++c.args.map a.eval⟩ :: dr }:Act).put o.dst undef) w
    rw [e];refine hk _ _ w h (cv.refl w) ?_ (by rw [put_defers];exact hm.call);have Dw:bY ws true ({ a with defers:=⟨.fn (.func g) cap,first++c.args.map a.eval⟩ :: a.defers }:Act) (({ a with defers:=⟨.fn (.func g) cap,first++c.args.map a.eval⟩ :: a.defers }:Act).put o.dst undef):=bY.put hd;exact ⟨Dw.1,fun hn=>by simp [dE,Db] at hn,Dw.2.2⟩
   ·exact h.elim
  ·exact h.elim
 ·rename_i it Db;obtain ⟨v,w',N9,hq,hs⟩:=kj P _ _ w h;obtain ⟨x,Ge⟩:=nL hq;obtain ⟨y,he,EO⟩:=nL Ge;subst he;refine ⟨fun _ _=>trivial,?_⟩;have Ef:(o.semAt r (Act.re a dr).eval).run P w=.ok (.value (.tuple #[x,y])) w':=by
   rw [Oper.semAt_eq _ _ _ (by rw [Db];simp),fZ];obtain ⟨dst,op,type,pos,after,guard⟩:=o;simp only at Db;subst Db;exact od N9
  show o.uponIn (FR r) n P (Act.re a dr) next Q ((o.semAt r (Act.re a dr).eval).run P w)
  rw [Ef,Oper.uponIn_value,kn];exact hk _ dr w' EO hs (bY.put hd) (by rw [put_defers];exact hm.keep hs.2.2.2.2)
 ·rename_i c Db;split at h
  ·rename_i f hf;split at h
   ·rename_i l' first cap LC
    obtain ⟨fn,tmps,assign,body,hy,hR⟩:=h w rfl;refine ⟨fun _ _=>trivial,?_⟩;have Ef:(o.semAt r (Act.re a dr).eval).run P w=.ok (.round l' fn tmps assign body) w:=by
     rw [Oper.semAt_eq _ _ _ (by rw [Db];simp),fZ];obtain ⟨dst,op,type,pos,after,guard⟩:=o;simp only at Db;subst Db;obtain ⟨callee,args,argTypes⟩:=c;simp only at hf;subst hf;simp only [execOp,resolve,LC,Deferred.ofValue,Sem.run_bind,Sem.run_pure,Result.andThen_ok,invoke];exact hy
    show o.uponIn (FR r) n P (Act.re a dr) next Q ((o.semAt r (Act.re a dr).eval).run P w)
    rw [Ef,Oper.uponIn_round];refine ⟨fun h=>(by cases h),(rv hR).mono ?_⟩;rintro e w' ⟨v,rfl,hv,hs⟩;show next ((Act.re a dr).put o.dst v) w'
    rw [kn];exact hk _ dr w' (py hv) hs (bY.put hd) (by rw [put_defers];exact hm.keep hs.2.2.2.2)
   ·exact plain h
  ·exact plain h
 ·exact plain h
theorem iD {P:Program} (hP:GoodPg P){r:Option Nat}{n:Nat}{ops:Array Oper}{Q:Act->ae->Prop}{Q':Exit->Act->World->Prop}{ws:List Nat}{l:List Nat}{m:Nat}:∀ (os:List Oper) (a:Act) (dr:List Deferred) (w:World),
  (∀ o∈os,∀ d,o.dst=some d->d∈ws)->(r=none∨os.all (fun o=>!dE o)=true)->MixD m w.heap dr a.defers l->rT P ops Q os a w.heap ->
  (∀ a' dr' w',Q a' w'.heap->cv w w'->bY ws (os.all fun o=>!dE o) a a'->MixD m w'.heap dr' a'.defers l->Q' .normal (Act.re a' dr') w')->wpListIn (FR r) n P ops Q' os (Act.re a dr) w
 | [],a,dr,w,_,_,hm,h,hk=>hk a dr w h (cv.refl w) (bY.refl ws _ a) hm
 | o :: rest,a,dr,w,hd,hr,hm,h,hk=>by
  have Eg:∀ d,o.dst=some d->d∈ws:=hd o (by simp);have Gf:∀ o∈rest,∀ d,o.dst=some d->d∈ws:=fun o ho=>hd o (by simp [ho]);have Hj:r=none∨dE o=false:=hr.imp id fun h=>by simpa using (SG.1 h) o (by simp)
  have Eh:r=none∨rest.all (fun o=>!dE o)=true:=hr.imp id fun h=>by rw [TE,R4] at h;exact h.2
  have Dw:∀ {b:Bool}{x y:Act},bY ws b x y->((o :: rest).all (fun o=>!dE o)=true->b=true)->bY ws ((o :: rest).all fun o=>!dE o) x y:=fun h hb=>h.mono (fun _ hi=>hi) hb;unfold wpListIn;rcases gT h with ⟨hw,hy⟩ | ⟨hw,hn⟩
  ·rw [Rj hw];refine jV hP Eg Hj hm hy fun a1 dr1 w' hv hs Fi DA=>?_;refine iD hP rest a1 dr1 w' Gf Eh DA hv fun a' dr' w'' hq Dv l0 CZ=>hk a' dr' w'' hq (hs.trans Dv) ((Dw Fi fun h=>?_).trans (Dw l0 fun h=>?_)) CZ
   ·rw [TE,R4] at h;exact h.1
   ·rw [TE,R4] at h;exact h.2
  ·rw [Re (by simp [hw])];refine ⟨fun _ _=>trivial,?_⟩;rw [kn];refine iD hP rest (a.put o.dst undef) dr w Gf Eh (by rw [put_defers];exact hm) hn fun a' dr' w'' hq Dv l0 CZ=>hk a' dr' w'' hq Dv ((bY.put Eg).trans (Dw l0 fun h=>?_)) CZ;rw [TE,R4] at h;exact h.2
section
variable {P:Program}{ops:Array Oper}{Q:Exit->Act->World->Prop}{r:Option Nat}{fn:Nat}
abbrev md:Region.Mode:=.any
inductive Path (ops:Array Oper):Nat->Nat->Prop where
 | one {i j:Nat} (h:j∈jD ops i):Path ops i j
 | more {i j k:Nat} (h:j∈jD ops i) (h':Path ops j k):Path ops i k
theorem Path.snoc {i j k:Nat} (h:Path ops i j) (h':k∈jD ops j):Path ops i k:=by
 induction h with
 | one h=>exact .more h (.one h')
 | more h _ ih=>exact .more h (ih h')
theorem ma {i:Nat}:∀ (p:Nat) (acc:List Nat),(∀ x∈acc,Path ops i x)->∀ x∈se ops p acc,Path ops i x
 | 0,_,h=>h
 | p+1,acc,h=>by
  unfold se;refine ma p _ ?_;split
  ·rename_i hp;intro x hx;rcases Rl.1 hx with hx | hx
   ·exact (h p (by simpa using hp)).snoc hx
   ·exact h x hx
  ·exact h
theorem vj {i x:Nat} (h:x∈BD ops i):Path ops i x:=ma i _ (fun _ hx=>.one hx) x h
def kv (ops:Array Oper) (listed:Array Bool):Prop:=∀ l,listed.getD l false=true->∀ p∈jD ops l,listed.getD p false=true
theorem jY {j:Nat}{listed:Array Bool} (hj:j∈Region.ready md ops listed):∀ p∈jD ops j,listed.getD p false=true:=by
 obtain ⟨_,o,ho,be⟩:=mem_ready.1 hj;intro p hp;simp only [jD,ho,RN,Sb] at hp;obtain ⟨e,⟨he,hb⟩,rfl⟩:=hp;exact be e (by simpa using he) hb
theorem qt {listed:Array Bool} (hc:kv ops listed){i j:Nat} (h:Path ops i j):(∀ p∈jD ops i,listed.getD p false=true)->listed.getD j false=true:=by
 induction h with
 | one h=>exact fun hi=>hi _ h
 | more h _ ih=>exact fun hi=>ih (hc _ (hi _ h))
theorem kv.step {listed:Array Bool} (hc:kv ops listed){j:Nat} (hj:j∈Region.ready md ops listed):kv ops (listed.setIfInBounds j true):=by
 intro l hl p hp;by_cases h:j=l
 ·subst h;exact getD_set_true (jY hj p hp)
 ·rw [getD_set_ne false h] at hl;exact getD_set_true (hc l hl p hp)
abbrev Ob:=List (Nat × (World->Prop))
def dH (ops:Array Oper) (O:Ob) (i:Nat):Ob:=O.filter fun p=>!(BD ops i).contains p.1
def BY (O:Ob) (w:World):Prop:=∀ p∈O,p.2 w
theorem ga {O:Ob}{i:Nat}:∀ p∈dH ops O i,p∈O:=fun _ hp=>(Sb.1 hp).1
def qd (r:Option Nat) (ops:Array Oper):Prop:=∀ (i:Nat) (o:Oper),ops[i]?=some o->∀ ρ,o.semAt r ρ=execOp ρ o
theorem qd.of (h:r=none∨ops.toList.all (fun o=>!dE o)=true):qd r ops:=by
 intro i o ho ρ;rcases h with rfl | h
 ·exact Oper.semAt_none _ _
 ·refine Oper.semAt_eq _ _ _ fun c hc=>?_
  have:=SG.1 h o (by simpa using Ts ho);simp [dE,hc] at this
theorem YieldsIf.wpOpIn {S:World->Prop} (hs:qd r ops){i:Nat}{o:Oper}{v:Value}{a:Act} (hi:ops[i]?=some o) (hy:YieldsIf P ops S o v a)
  {K:Act->World->Prop}{w:World} (hS:S w) (h:K (a.put o.dst v) w):wpOpIn (FR r) fn P ops Q i K a w:=by
 unfold Go.wpOpIn;simp only [hi];rcases hy with ⟨hw,hv⟩ | ⟨hw,rfl⟩
 ·simp only [hw,if_true,Oper.wpIn];refine ⟨fun _ _=>trivial,?_⟩;rw [show o.semAt (FR r).round a.eval=execOp a.eval o from hs i o hi _,hv w hS];exact h
 ·simp only [hw,RY,if_false];exact ⟨fun _ _=>trivial,h⟩
theorem oY {S:World->Prop} (hs:qd r ops){j:Nat}{oi oj:Oper}{v:Value} (hj:ops[j]?=some oj) (O9:oi.apart ops oj=true)
  (Pa:∀ cs b,oi.op≠.select cs b) (Pb:∀ cs b,oj.op≠.select cs b)
  (hQ:∀ c a w,Q (.panic c) (a.put oi.dst v) w->Q (.panic c) a w){K:Act->World->Prop}{a:Act}{w:World}
  (hy:YieldsIf P ops S oi v a) (h:wpOpIn (FR r) fn P ops Q j K (a.put oi.dst v) w) :
  wpOpIn (FR r) fn P ops Q j (fun a' w'=>YieldsIf P ops S oi v a'∧K (a'.put oi.dst v) w') a w:=by
 obtain ⟨h1,h2,h3⟩:=Oper.apart_spec O9;have keep:∀ (a:Act),YieldsIf P ops S oi v a->∀ u,YieldsIf P ops S oi v (a.put oj.dst u):=fun a hy u =>
  hy.of_same (execOp_put oi Pa a oj.dst u h3) (wanted_put oi a oj.dst u h3)
 have keepD:∀ d,YieldsIf P ops S oi v { a with defers:=d :: a.defers }:=fun d=>hy.of_same rfl rfl;have KX:=hs j oj hj;unfold wpOpIn at h ⊢;simp only [hj] at h ⊢;rw [wanted_put oj a oi.dst v h1] at h;split
 ·rename_i hw;simp only [hw,if_true] at h;unfold Oper.wpIn at *;refine ⟨fun _ _=>trivial,?_⟩;have h:=h.2;rw [show oj.semAt (FR r).round (a.put oi.dst v).eval=execOp (a.put oi.dst v).eval oj from KX _,execOp_put oj Pb a oi.dst v h1] at h;rw [show oj.semAt (FR r).round a.eval=execOp a.eval oj from KX _];generalize (execOp a.eval oj).run P w=res at *;cases res with
  | ok x w' =>
   cases x <;> simp only [Oper.uponIn] at h ⊢
   case value u=>exact ⟨keep a hy u,by rw [←Act.put_comm a v u h2];exact h⟩
   case skip=>exact ⟨keep a hy _,by rw [←Act.put_comm a v undef h2];exact h⟩
   case defer d =>
    refine ⟨keep _ (keepD d) _,?_⟩;rw [←Act.put_comm _ v undef h2,←Act.put_defers];exact h
   case enter f args =>
    refine ⟨h.1,CallsIn.mono h.2 fun e w'' he=>?_⟩;cases e with
    | returned u=>exact ⟨keep a hy u,by rw [←Act.put_comm a v u h2];exact he⟩
    | panicked c=>exact hQ _ _ _ he
    | outgrown=>exact he
   case row row args=>exact ⟨h.1,RowsIn.mono h.2 fun u w'' he=>⟨keep a hy u,by rw [←Act.put_comm a v u h2];exact he⟩⟩
   case round l f tmps assign body =>
    refine ⟨h.1,RoundIn.mono h.2 fun e w'' he=>?_⟩;cases e with
    | returned u=>exact ⟨keep a hy u,by rw [←Act.put_comm a v u h2];exact he⟩
    | panicked c=>exact hQ _ _ _ he
    | outgrown=>exact he
  | halt x w' =>
   cases x <;> simp only [Oper.uponIn] at h ⊢
   case panic u=>exact hQ _ _ _ h
 ·rename_i hw;simp only [hw] at h;exact ⟨fun _ _=>trivial,keep a hy _,by rw [←Act.put_comm a v undef h2];exact h.2⟩
def fj (r:Option Nat) (fn:Nat) (P:Program) (ops:Array Oper) (Q:Exit->Act->World->Prop):Nat->Ob->Array Bool->Act->World->Prop
 | 0,_,listed,a,w=>Region.ready md ops listed=[]∧Q .normal a w
 | fuel+1,O,listed,a,w =>
  (Region.ready md ops listed=[]->Q .normal a w) ∧
  ∀ i∈Region.ready md ops listed,wpOpIn (FR r) fn P ops Q i (fun a' w'=>BY (dH ops O i) w'∧fj r fn P ops Q fuel (dH ops O i) (listed.setIfInBounds i true) a' w') a w
theorem lq:∀ (fuel:Nat) (O:Ob) (listed:Array Bool) (a:Act) (w:World),fj r fn P ops Q fuel O listed a w->wpAnyIn (FR r) fn P md ops Q fuel listed a w
 | 0,_,_,_,_,h=>h
 | fuel+1,_,_,_,_,h=>⟨h.1,fun i hi=>wpOpIn_mono (fun a' w' h'=>lq fuel _ _ a' w' h'.2) (h.2 i hi)⟩
theorem iG:∀ (fuel:Nat) (O O':Ob) (listed:Array Bool) (a:Act) (w:World),(∀ p∈O',p∈O)->fj r fn P ops Q fuel O listed a w->fj r fn P ops Q fuel O' listed a w
 | 0,_,_,_,_,_,_,h=>h
 | fuel+1,O,O',listed,a,w,hs,h=>by
  have Dv:∀ i,∀ p∈dH ops O' i,p∈dH ops O i:=fun i p hp=>by
   obtain ⟨h1,h2⟩:=Sb.1 hp;exact Sb.2 ⟨hs p h1,h2⟩
  exact ⟨h.1,fun i hi=>wpOpIn_mono (fun a' w' h'=>⟨fun p hp=>h'.1 p (Dv i p hp),iG fuel _ _ _ a' w' (Dv i) h'.2⟩) (h.2 i hi)⟩
theorem ou (EP:qd r ops){i:Nat}{oi:Oper}{v:Value}{S:World->Prop} (hi:ops[i]?=some oi) (DB:∀ (j:Nat) (o:Oper) cs b,ops[j]?=some o->o.op≠.select cs b)
  (hQ:∀ c a w,Q (.panic c) (a.put oi.dst v) w->Q (.panic c) a w) :
  ∀ (fuel:Nat) (O:Ob) (listed:Array Bool) (a:Act) (w:World),
   (∀ j oj,ops[j]?=some oj->j≠i->listed.getD j true=false->(∀ e∈oj.after,Region.binds md e=true->e.on≠i)->oi.apart ops oj=true) ->
   kv ops listed->i∈Region.ready md ops listed->YieldsIf P ops S oi v a->S w->BY O w ->
   fj r fn P ops Q fuel ((i,S) :: O) (listed.setIfInBounds i true) (a.put oi.dst v) w->fj r fn P ops Q (fuel+1) O listed a w:=by
 intro fuel
 induction fuel with
 | zero =>
  intro O listed a w _ _ hr hy hS hO H;refine ⟨fun h=>(by rw [h] at hr;cases hr),fun j hj=>?_⟩;by_cases EC:j=i
  ·subst EC;exact YieldsIf.wpOpIn EP hi hy hS ⟨fun p hp=>hO p (ga p hp),H⟩
  ·have:=ready_mono hj EC;rw [H.1] at this;cases this
 | succ fuel ih =>
  intro O listed a w ED r0 hr hy hS hO H;refine ⟨fun h=>(by rw [h] at hr;cases hr),fun j hj=>?_⟩;by_cases EC:j=i
  ·subst EC;exact YieldsIf.wpOpIn EP hi hy hS ⟨fun p hp=>hO p (ga p hp),iG _ _ _ _ _ _ (fun p hp=>R0 _ (ga p hp)) H⟩
  ·have h1:=H.2 j (ready_mono hj EC);obtain ⟨I2,oj,LF,be⟩:=mem_ready.1 hj;have I3:listed.getD i false=false:=by
    have h0:=(mem_ready.1 hr).1;rcases Sf i listed.size with h' | h'
    ·simp [h'] at h0 ⊢;exact h0
    ·simp [Sd h']
   have LG:∀ e∈oj.after,Region.binds md e=true->e.on≠i:=fun e he hb heq=>by
    have h1:=be e he hb;rw [heq,I3] at h1;cases h1
   have Pc:(BD ops j).contains i=false:=by
    cases hc:(BD ops j).contains i with
    | false=>rfl
    | true =>
     have:=qt r0 (vj (by simpa using hc)) (jY hj);rw [I3] at this;cases this
   have Gf:dH ops ((i,S) :: O) j=(i,S) :: dH ops O j:=by
    unfold dH;rw [List.filter_cons_of_pos (by simpa using Pc)]
   rw [Gf] at h1;have h2:=oY EP LF (ED j oj LF EC I2 LG) (fun cs b=>DB i oi cs b hi) (fun cs b=>DB j oj cs b LF) hQ hy h1;have HK:∀ k ok,ops[k]?=some ok->k≠i->(listed.setIfInBounds j true).getD k true=false ->
     (∀ e∈ok.after,Region.binds md e=true->e.on≠i)->oi.apart ops ok=true:=fun k ok hk Pd LH yB=>by
    refine ED k ok hk Pd ?_ yB;by_cases I4:j=k
    ·subst I4;exact I2
    ·rw [getD_set_ne true I4] at LH;exact LH
   refine wpOpIn_mono (fun a' w' h3=>?_) h2;have C0:BY (dH ops O j) w':=fun p hp=>h3.2.1 p (R0 _ hp);refine ⟨C0,ih (dH ops O j) (listed.setIfInBounds j true) a' w' HK (r0.step hj) (ready_mono hr (S4 EC)) h3.1 (h3.2.1 (i,S) (by simp)) C0 ?_⟩;rw [Array.setIfInBounds_comm _ _ EC];exact h3.2.2
def qN (held:List (Nat × List (Addr × Value))):Ob:=held.map fun h=>(h.1,fun w=>gj h.2 w.heap)
theorem pO (held:List (Nat × List (Addr × Value))) (i:Nat):dH ops (qN held) i=qN (kw ops i held):=by
 unfold dH qN kw;rw [List.filter_map];rfl
theorem jL {held:List (Nat × List (Addr × Value))}{w:World}:Holds held w.heap↔BY (qN held) w:=by
 induction held with
 | nil=>exact ⟨fun _ p hp=>by simp [qN] at hp,fun _=>trivial⟩
 | cons h r ih =>
  obtain ⟨i,l⟩:=h;constructor
  ·rintro ⟨h1,h2⟩ p hp;rcases Rk.1 hp with rfl | hp
   ·exact h1
   ·exact ih.1 h2 p hp
  ·intro h;exact ⟨h _ (S5 ..),ih.2 fun p hp=>h p (R0 _ hp)⟩
theorem lU:∀ {l:List Nat}{p:Nat->Prop},rF l p->∀ i∈l,p i
 | [],_,_,_,hi=>by simp at hi
 | [i],_,h,j,hj=>by simp at hj;subst hj;exact h
 | i :: k :: r,_,h,j,hj=>by
  rcases Rk.1 hj with rfl | hj
  ·exact h.1
  ·exact lU h.2 j hj
theorem sj {P:Program}{ops:Array Oper}{Q':Exit->Act->World->Prop}{i:Nat}:∀ (n:Nat) (O:Ob) (listed:Array Bool) (a:Act) (w:World),fj r fn P ops Q' n O listed a w->fj r fn P ops Q' n ((i,fun _=>True) :: O) listed a w
 | 0,_,_,_,_,h=>h
 | n+1,O,listed,a,w,h=>by
  refine ⟨h.1,fun j hj=>wpOpIn_mono (fun a' w' h'=>?_) (h.2 j hj)⟩;have b9:∀ p∈dH ops ((i,fun _=>True) :: O) j,p∈(i,fun _=>True) :: dH ops O j:=fun p hp=>by
   obtain ⟨h1,h2⟩:=Sb.1 hp;rcases Rk.1 h1 with rfl | h1
   ·exact S5 ..
   ·exact R0 _ (Sb.2 ⟨h1,h2⟩)
  refine ⟨fun p hp=>?_,iG _ _ _ _ _ _ b9 (sj n _ _ a' w' h'.2)⟩;rcases Rk.1 (b9 p hp) with rfl | hp
  ·trivial
  ·exact h'.1 p hp
theorem eK {P:Program} (hP:GoodPg P){ops:Array Oper}{Q:Act->ae->Prop}{Q':Exit->Act->World->Prop}{ws:List Nat} (sz:∀ (i:Nat) (o:Oper),ops[i]?=some o->∀ d,o.dst=some d->d∈ws)
  (EP:qd r ops) (DB:Region.noSelect ops=true){m:Nat}{l:List Nat} (hQ:∀ c a w,¬ Q' (.panic c) a w):∀ (n:Nat) (listed:Array Bool) (held:List (Nat × List (Addr × Value))) (a:Act) (dr:List Deferred) (w:World),
  kv ops listed->Holds held w.heap->MixD m w.heap dr a.defers l->fN P ops Q n listed held a w.heap->(∀ a' dr' w',Q a' w'.heap->cv w w'->bY ws true a a'->MixD m w'.heap dr' a'.defers l->Q' .normal (Act.re a' dr') w')->fj r fn P ops Q' n (qN held) listed (Act.re a dr) w
 | 0,listed,held,a,dr,w,_,_,hm,h,hk=>by
  simp only [fN] at h;split at h
  ·rename_i hr;exact ⟨by simpa using hr,hk a dr w h (cv.refl w) (bY.refl ws true a) hm⟩
  ·exact h.elim
 | n+1,listed,held,a,dr,w,r0,EE,hm,h,hk=>by
  simp only [fN] at h;split at h
  ·rename_i i hq;split at h
   ·rename_i o ED ho;have hd:∀ d,o.dst=some d->d∈ws:=sz i o ho;have LI:i∈Region.ready md ops listed:=List.mem_of_find?_eq_some hq;have take:∀ (v:Value) (S:World->Prop) (Dc:List (Nat × List (Addr × Value))),(∀ p∈qN Dc,p∈(i,S) :: qN held)->fj r fn P ops Q' n ((i,S) :: qN held) (listed.setIfInBounds i true) (Act.re (a.put o.dst v) dr) w->YieldsIf P ops S o v (Act.re a dr)->S w->fj r fn P ops Q' (n+1) (qN held) listed (Act.re a dr) w :=
     fun v S Dc _ H hy hS=>ou EP ho (Region.noSelect_spec DB) (fun c a w h=>(hQ c _ w h).elim) n (qN held) listed (Act.re a dr) w (Region.free_spec ho ED) r0 LI hy hS (jL.1 EE) (by rw [kn];exact H)
    have rest:∀ (v:Value) (Dc:List (Nat × List (Addr × Value))),Holds Dc w.heap->fN P ops Q n (listed.setIfInBounds i true) Dc (a.put o.dst v) w.heap->fj r fn P ops Q' n (qN Dc) (listed.setIfInBounds i true) (Act.re (a.put o.dst v) dr) w :=
     fun v Dc hh hv=>eK hP sz EP DB hQ n _ Dc _ dr w (r0.step LI) hh (by rw [put_defers];exact hm) hv fun a' dr' w'' hq hs l0 CZ=>hk a' dr' w'' hq hs ((bY.put hd).trans l0) CZ
    have plain:∀ (v:Value),YieldsIf P ops (fun _=>True) o v (Act.re a dr)->fN P ops Q n (listed.setIfInBounds i true) held (a.put o.dst v) w.heap->fj r fn P ops Q' (n+1) (qN held) listed (Act.re a dr) w:=by
     intro v hy hv;refine take v (fun _=>True) ((i,[]) :: held) (fun p hp=>?_) ?_ hy trivial
     ·rcases Rk.1 hp with rfl | hp
      ·exact S5 ..
      ·exact R0 _ hp
     ·have:=eK hP sz EP DB hQ n (listed.setIfInBounds i true) held (a.put o.dst v) dr w (r0.step LI) EE (by rw [put_defers];exact hm) hv fun a' dr' w'' hq hs l0 CZ=>hk a' dr' w'' hq hs ((bY.put hd).trans l0) CZ;exact sj n (qN held) (listed.setIfInBounds i true) _ w this
    rcases gT h with ⟨hw,hy⟩ | ⟨hw,hn⟩
    ·split at hy
     ·obtain ⟨v,hv,hr⟩:=jx hy;exact plain v (.inl ⟨hw,fun w _=>by rw [fZ];exact hr w⟩) hv
     ·rename_i Hi;split at hy
      ·rename_i t x Db;split at hy
       ·rename_i ad hx;obtain ⟨v,cs,hv,hc,hr⟩:=iB hy;refine take v (fun w=>gj cs w.heap) ((i,cs) :: held) (fun p hp=>hp) (rest v ((i,cs) :: held) ⟨hc,EE⟩ hv) (.inl ⟨hw,fun w' w5=>?_⟩) hc;obtain ⟨dst,op,type,pos,after,guard⟩:=o;simp only at Db;subst Db;refine od ?_;simp only [fZ,hx,Instr.loadAt,Instr.sureAddr,Sem.run_bind,Sem.run_pure,Result.andThen_ok];exact hr w' w5
       ·exact hy.elim
      ·exact hy.elim
    ·exact plain undef (.inr ⟨hw,rfl⟩) hn
   ·exact h.elim
  ·split at h
   ·rename_i hr;refine ⟨fun _=>hk a dr w h (cv.refl w) (bY.refl ws true a) hm,fun i hi=>?_⟩;rw [show Region.ready md ops listed=[] from hr] at hi;cases hi
   ·rename_i c9;refine ⟨fun hr=>absurd hr c9,fun i hi=>?_⟩;have HL:=lU h i hi;have I5:=r0.step hi;split at HL
    ·rename_i o ho;have hd:∀ d,o.dst=some d->d∈ws:=sz i o ho;rw [pO];unfold wpOpIn;simp only [ho];rcases gT HL with ⟨hw,hy⟩ | ⟨hw,hn⟩
     ·rw [Rj hw];split at hy
      ·exact hy.elim
      ·rename_i hnd;refine jV hP hd (.inr hnd) hm hy fun a1 dr1 w' hv hs Fi DA=>?_;rw [hnd] at Fi;exact ⟨jL.1 hv.1,eK hP sz EP DB hQ n _ _ _ dr1 w' I5 hv.1 DA hv.2 fun a' dr' w'' hq Dv l0 CZ=>hk a' dr' w'' hq (hs.trans Dv) (Fi.trans l0) CZ⟩
     ·rw [Re (by simp [hw])];have hh:Holds (kw ops i held) w.heap:=jL.2 fun p hp=>jL.1 EE p (by rw [←pO] at hp;exact ga p hp);rw [kn];exact ⟨fun _ _=>trivial,jL.1 hh,eK hP sz EP DB hQ n _ _ _ dr w I5 hh (by rw [put_defers];exact hm) hn fun a' dr' w'' hq Dv l0 CZ=>hk a' dr' w'' hq Dv ((bY.put hd).trans l0) CZ⟩
    ·exact HL.elim
end
def wU:Exit->Prop
 | .panic _ | .outgrown=>False
 | _=>True
def Am (Q:lG) (c:Code) (m:Nat) (a:Act) (l:List Nat) (w:World):Exit->Act->World->Prop:=fun e ar w' =>
 wU e∧∃ a' l',ar=Act.re a' ar.defers∧Q e a' w'.heap∧cv w w'∧bY (dg c) (bM c) a a'∧MixD m w'.heap ar.defers a'.defers l'∧(cn c=true->l'=l)
theorem Act.ext' {a b:Act} (h1:a.tmps=b.tmps) (h2:a.defers=b.defers):a=b:=by
 cases a;cases b;simp only at h1 h2;subst h1;subst h2;rfl
theorem oQ {a:Act}{i:Nat} (h:i<a.tmps.size):a.tmps[i]?=some (a.tmps.getD i undef):=by
 simp [h]
theorem kz {ws:List Nat}{a':Act}:∀ (l:List Nat) (b:Act),(∀ i∈l,i∈ws)->bY ws true a' b ->
  bY ws true a' (pc b l fun i=>a'.tmps.getD i undef)∧∀ i,(i∈l∨b.tmps[i]?=a'.tmps[i]?)->(pc b l fun i=>a'.tmps.getD i undef).tmps[i]?=a'.tmps[i]?
 | [],b,_,hk=>⟨hk,fun i hi=>hi.resolve_left (by simp)⟩
 | j :: l,b,hl,hk=>by
  have AT:bY ws true a' (b.put (some j) (a'.tmps.getD j undef)):=hk.trans (bY.put (by rintro d ⟨⟩;exact hl j (by simp)));obtain ⟨h1,h2⟩:=kz l (b.put (some j) (a'.tmps.getD j undef)) (fun i hi=>hl i (by simp [hi])) AT;refine ⟨h1,fun i hi=>h2 i ?_⟩;by_cases LJ:i=j
  ·subst LJ;right;simp only [Act.put];by_cases an:i<a'.tmps.size
   ·rw [Array.getElem?_setIfInBounds_self_of_lt (by rw [hk.1];exact an)];exact (oQ an).symm
   ·have e1:a'.tmps[i]?=none:=Sd (by omega);have e2:(b.tmps.setIfInBounds i (a'.tmps.getD i undef))[i]?=none:=Sd (by rw [Array.size_setIfInBounds,hk.1];omega);rw [e1];exact e2
  ·rcases hi with hi | hi
   ·rcases Rk.1 hi with rfl | hi
    ·exact absurd rfl LJ
    ·exact .inl hi
   ·right;simp only [Act.put];rw [Se (S4 LJ)];exact hi
theorem tN {ws:List Nat}{a a':Act} (h:bY ws true a a'):pc a ws (fun i=>a'.tmps.getD i undef)=a':=by
 have hk:bY ws true a' a:=⟨h.1.symm,fun _=>(h.2.1 rfl).symm,fun i hi=>(h.2.2 i hi).symm⟩;obtain ⟨h1,h2⟩:=kz (a':=a') ws a (fun _ hi=>hi) hk;refine Act.ext' ?_ (h1.2.1 rfl);apply Array.ext_getElem?;intro i;by_cases hi:i∈ws
 ·exact h2 i (.inl hi)
 ·exact h2 i (.inr (h.2.2 i hi).symm)
theorem kC {a:Act}:∀ {ps:List (Nat × Value)},(∀ p∈ps,p.2=a.tmps.getD p.1 undef)->lx a ps=a
 | [],_=>rfl
 | (t,v) :: r,h=>by
  have h0:v=a.tmps.getD t undef:=h (t,v) (by simp)
  have:a.put (some t) v=a:=by
   by_cases ht:t<a.tmps.size
   ·exact gv (by rw [h0];exact oQ ht)
   ·refine Act.ext' ?_ rfl;simp only [Act.put,Array.setIfInBounds];rw [dif_neg ht]
  show lx (a.put (some t) v) r=a;rw [this];exact kC fun p hp=>h p (by simp [hp])
theorem jv {P:Program}:∀ {L:List (Nat × TypeId)}{k:List (Nat × Value)->Prop},ot P L k->∃ ps,ps.map (·.1)=L.map (·.1)∧k ps
 | [],_,h=>⟨[],rfl,h⟩
 | (t,ty) :: r,k,h=>by
  obtain ⟨v,h⟩:=jX h;obtain ⟨ps,hp,h⟩:=jv h;exact ⟨_,by simp [hp],h⟩
theorem kH {a':Act}:∀ {L:List (Nat × TypeId)}{ps:List (Nat × Value)},ps.map (·.1)=L.map (·.1)->dX a' L=ps.map (·.2)->∀ p∈ps,p.2=a'.tmps.getD p.1 undef
 | [],[],_,_,p,hp=>by simp at hp
 | _ :: _,[],h,_,_,_=>by simp at h
 | [],_ :: _,h,_,_,_=>by simp at h
 | (t,ty) :: L,(s,v) :: ps,h,h',p,hp=>by
  simp only [R6,List.cons.injEq] at h;simp only [dX,R6,List.cons.injEq] at h';rcases Rk.1 hp with rfl | hp
  ·simp only [h.1,h'.1]
  ·exact kH h.2 h'.2 p hp
theorem iX {P:Program}{ws:List Nat}{L:List (Nat × TypeId)}{a a':Act}{K:Act->ae->Prop}{H:ae} (h:my P ws L a K (dX a' L) H) (hk:bY ws true a a'):K a' H:=by
 obtain ⟨ps,hp,hs,h⟩:=jv (h fun i=>a'.tmps.getD i undef);rw [tN hk,kC (kH hp hs)] at h;exact h
theorem jI {r:Option Nat}{c c':Code} (h:r=none∨(di c=true∧bM c=true)) (h1:di c=true->di c'=true) (h2:bM c=true->bM c'=true):r=none∨(di c'=true∧bM c'=true) :=
 h.imp id fun h=>⟨h1 h.1,h2 h.2⟩
theorem nH {Q:Nat->ae->Prop}:∀ {l:List Nat}{id:Nat}{H:ae},ss (l.map fun i=>(i,Q i)) id H->Q id H
 | [],_,_,h=>h.elim
 | i :: l,id,H,h=>by
  simp only [R6,ss] at h;split at h
  ·rename_i e;rw [of_decide_eq_true e];exact h
  ·exact nH h
theorem dv {P:Program} (hP:GoodPg P){Ls:rk}{r:Option Nat}{m:Nat}:∀ (c:Code) (Q:lG) (a:Act) (dr:List Deferred) (l:List Nat) (w:World),(r=none∨(di c=true∧bM c=true))->m<=w.heap.size->MixD m w.heap dr a.defers l ->
  ev P Ls c Q a w.heap->c.wpIn (FR r) 0 P (Am Q c m a l w) (Act.re a dr) w
 | .skip,Q,a,dr,l,w,_,_,hm,h=>wpIn_skip ⟨trivial,a,l,rfl,h,cv.refl w,bY.refl _ _ a,hm,fun _=>rfl⟩
 | .label _,Q,a,dr,l,w,_,_,hm,h=>wpIn_label ⟨trivial,a,l,rfl,h,cv.refl w,bY.refl _ _ a,hm,fun _=>rfl⟩
 | .region id ops draw,Q,a,dr,l,w,hr,_,hm,h=>by
  have sz:∀ (i:Nat) (o:Oper),ops[i]?=some o->∀ d,o.dst=some d->d∈dg (.region id ops draw):=fun i o ho d hd =>
   List.mem_filterMap.2 ⟨o,by simpa using Ts ho,hd⟩
  simp only [ev] at h;split at h
  ·refine wpIn_region_list (iD hP ops.toList a dr w (fun o ho d hd=>List.mem_filterMap.2 ⟨o,ho,hd⟩) (hr.imp (fun h=>h) fun h=>h.2) hm h ?_);exact fun a' dr' w' hq hs hk CZ=>⟨trivial,a',l,rfl,hq,hs,hk,CZ,fun _=>rfl⟩
  ·split at h
   ·rename_i DB;have EP:qd r ops:=qd.of (hr.imp (fun h=>h) fun h=>h.2);refine wpIn_region_any hP.mixed (lq _ (qN []) _ _ _ ?_);refine eK hP sz EP DB (m:=m) (l:=l) (fun c a w h=>h.1) ops.size _ [] a dr { w with drawn:=w.drawn+1 } ?_ trivial hm h ?_
    ·intro l hl;by_cases an:l<ops.size <;> simp [an] at hl
    ·exact fun a' dr' w' hq hs hk CZ=>⟨trivial,a',l,rfl,hq,⟨hs.1,hs.2.1,hs.2.2.1,Rr (Tz _) hs.2.2.2.1,hs.2.2.2.2⟩,hk.mono (fun _ hi=>hi) (fun _=>rfl),CZ,fun _=>rfl⟩
   ·exact h.elim
 | .seq x y,Q,a,dr,l,w,hr,s5,hm,h=>by
  have hx:∀ i∈dg x,i∈dg (.seq x y):=fun i hi=>Sv _ hi;have hy:∀ i∈dg y,i∈dg (.seq x y):=fun i hi=>S9 _ hi;have dx:bM (.seq x y)=true->bM x=true:=fun h=>by simp only [bM,R4] at h;exact h.1
  have dy:bM (.seq x y)=true->bM y=true:=fun h=>by simp only [bM,R4] at h;exact h.2
  have rx:cn (.seq x y)=true->cn x=true:=fun h=>by simp only [cn,R4] at h;exact h.1
  have ry:cn (.seq x y)=true->cn y=true:=fun h=>by simp only [cn,R4] at h;exact h.2
  have KY:=jI (c':=x) hr (fun h=>by simp only [di,R4] at h;exact h.1) dx;have KZ:=jI (c':=y) hr (fun h=>by simp only [di,R4] at h;exact h.2) dy;simp only [ev] at h;split at h
  ·refine wpIn_seq (wpIn_mono (dv hP x _ a dr l w KY s5 hm h) ?_);rintro e ar w' ⟨hp,a',l',ha,hq,hs,hk,CZ,hl⟩;cases e with
   | normal =>
    rw [ha];refine wpIn_mono (dv hP y Q a' ar.defers l' w' KZ (Rr s5 hs.2.2.2.2.1) CZ hq) ?_;rintro e ar' w'' ⟨Gv,a'',l'',Gg,Gx,Dv,AT,EQ,Ei⟩;exact ⟨Gv,a'',l'',Gg,Gx,hs.trans Dv,(hk.mono hx dx).trans (AT.mono hy dy),EQ,fun h=>(Ei (ry h)).trans (hl (rx h))⟩
   | panic c=>exact hp.elim
   | outgrown=>exact hp.elim
   | _=>exact ⟨trivial,a',l',ha,hq,hs,hk.mono hx dx,CZ,fun h=>hl (rx h)⟩
  ·rename_i L hL;split at h
   ·rename_i hnd;obtain ⟨J,h1,h2⟩:=h;refine wpIn_seq (wpIn_mono (dv hP x _ a dr l w KY s5 hm h1) ?_);rintro e ar w' ⟨hp,a',l',ha,hq,hs,hk,CZ,hl⟩;cases e with
    | normal =>
     rw [ha];have Gx:=iX (h2 _ _ hq) (hk.mono (fun _ hi=>hi) fun _=>hnd);refine wpIn_mono (dv hP y Q a' ar.defers l' w' KZ (Rr s5 hs.2.2.2.2.1) CZ Gx) ?_;rintro e ar' w'' ⟨Gv,a'',l'',Gg,Gx,Dv,AT,EQ,Ei⟩;exact ⟨Gv,a'',l'',Gg,Gx,hs.trans Dv,(hk.mono hx dx).trans (AT.mono hy dy),EQ,fun h=>(Ei (ry h)).trans (hl (rx h))⟩
    | panic c=>exact hp.elim
    | outgrown=>exact hp.elim
    | _=>exact ⟨trivial,a',l',ha,hq,hs,hk.mono hx dx,CZ,fun h=>hl (rx h)⟩
   ·exact h.elim
 | .cond c x y,Q,a,dr,l,w,hr,s5,hm,h=>by
  have hx:∀ i∈dg x,i∈dg (.cond c x y):=fun i hi=>Sv _ hi;have hy:∀ i∈dg y,i∈dg (.cond c x y):=fun i hi=>S9 _ hi;have dx:bM (.cond c x y)=true->bM x=true:=fun h=>by simp only [bM,R4] at h;exact h.1
  have dy:bM (.cond c x y)=true->bM y=true:=fun h=>by simp only [bM,R4] at h;exact h.2
  have rx:cn (.cond c x y)=true->cn x=true:=fun h=>by simp only [cn,R4] at h;exact h.1
  have ry:cn (.cond c x y)=true->cn y=true:=fun h=>by simp only [cn,R4] at h;exact h.2
  have KY:=jI (c':=x) hr (fun h=>by simp only [di,R4] at h;exact h.1) dx;have KZ:=jI (c':=y) hr (fun h=>by simp only [di,R4] at h;exact h.2) dy;simp only [ev] at h;split at h
  ·rename_i b hb;have same:∀ t,c=.tmp t->a.put (some t) (.bool b)=a:=by
    rintro t rfl;refine gv ?_;simp only [Act.eval] at hb;by_cases ht:t<a.tmps.size
    ·rw [oQ ht,hb]
    ·have:a.tmps.getD t undef=undef:=by simp [ht]
     rw [this] at hb;cases hb
   have h:cond b (ev P Ls x Q a w.heap) (ev P Ls y Q a w.heap):=by
    cases c with
    | tmp t =>
     have e:=same t rfl;cases b
     ·simp only [e,Rh] at h ⊢;exact h
     ·simp only [e,Rs] at h ⊢;exact h
    | _=>exact h
   have er:(Act.re a dr).eval c=.bool b:=by rw [fZ];exact hb
   cases b
   ·exact wpIn_cond_false er (wpIn_mono (dv hP y Q a dr l w KZ s5 hm h) fun e ar w' ⟨h1,a',l',h2,h3,h4,h5,h6,h7⟩=>⟨h1,a',l',h2,h3,h4,h5.mono hy dy,h6,fun h=>h7 (ry h)⟩)
   ·exact wpIn_cond_true er (wpIn_mono (dv hP x Q a dr l w KY s5 hm h) fun e ar w' ⟨h1,a',l',h2,h3,h4,h5,h6,h7⟩=>⟨h1,a',l',h2,h3,h4,h5.mono hx dx,h6,fun h=>h7 (rx h)⟩)
  ·exact h.elim
 | .block id b,Q,a,dr,l,w,hr,s5,hm,h=>by
  simp only [ev] at h;refine wpIn_block (wpIn_mono (dv hP b _ a dr l w hr s5 hm h) ?_);rintro e ar w' ⟨hp,a',l',ha,hq,hs,hk,CZ,hl⟩;cases e with
  | exit id' =>
   simp only [qi] at hq;simp only [Exit.inBlock];split at hq
   ·rename_i LL;rw [Rj (of_decide_eq_true LL)];exact ⟨trivial,a',l',ha,hq,hs,hk,CZ,hl⟩
   ·rename_i LL;rw [Re (of_decide_eq_false LL)];exact ⟨trivial,a',l',ha,hq,hs,hk,CZ,hl⟩
  | panic c=>exact hp.elim
  | outgrown=>exact hp.elim
  | _=>exact ⟨trivial,a',l',ha,hq,hs,hk,CZ,hl⟩
 | .loop b,Q,a,dr,l,w,hr,s5,hm,h=>by
  simp only [ev] at h;split at h
  ·exact h.elim
  ·rename_i L hL;split at h
   ·rename_i hnd;obtain ⟨I,μ,h0,h⟩:=h;refine wpIn_loop (fun ar w'=>∃ a' l',ar=Act.re a' ar.defers∧I (dX a' L) w'.heap∧cv w w'∧bY (dg b) true a a'∧MixD m w'.heap ar.defers a'.defers l'∧(cn b=true->l'=l)) (fun ar w'=>μ (dX ar L) w'.heap) ⟨a,l,rfl,h0,cv.refl w,bY.refl _ _ a,hm,fun _=>rfl⟩ ?_;rintro ar w' ⟨a',l',ha,hI,hs,hk,CZ,hl⟩;have hb:=iX (h _ _ hI) hk;have hw:=dv hP b _ a' ar.defers l' w' hr (Rr s5 hs.2.2.2.2.1) CZ hb;rw [←ha] at hw;refine wpIn_mono hw ?_;rintro e ar' w'' ⟨Gv,a'',l'',Gg,Gx,Dv,AT,EQ,Ei⟩;have EF:bY (dg b) true a' a'':=AT.mono (fun _ hi=>hi) fun _=>hnd;cases e with
    | normal =>
     refine ⟨⟨a'',l'',Gg,Gx.1,hs.trans Dv,hk.trans EF,EQ,fun h=>(Ei h).trans (hl h)⟩,?_⟩;have e1:dX ar' L=dX a'' L:=by rw [Gg];rfl
     have e2:dX ar L=dX a' L:=by rw [ha];rfl
     rw [e1,e2];exact Gx.2
    | panic c=>exact Gv.elim
    | outgrown=>exact Gv.elim
    | _=>exact ⟨trivial,a'',l'',Gg,Gx,hs.trans Dv,(hk.trans EF).mono (fun _ hi=>hi) fun _=>rfl,EQ,fun h=>(Ei h).trans (hl h)⟩
   ·exact h.elim
 | .exit id,Q,a,dr,l,w,_,_,hm,h=>wpIn_exit ⟨trivial,a,l,rfl,h,cv.refl w,bY.refl _ _ a,hm,fun _=>rfl⟩
 | .ret,Q,a,dr,l,w,_,_,hm,h=>wpIn_ret ⟨trivial,a,l,rfl,h,cv.refl w,bY.refl _ _ a,hm,fun _=>rfl⟩
 | .rangeFunc g ps assign body,Q,a,dr,l,w,hr,s5,hm,h=>by
  have LD:r=none:=hr.resolve_right (by simp [di]);subst LD;simp only [ev] at h;split at h
  ·rename_i gf first lb hg
   refine wpIn_rangeFunc ?_;intro fn _;obtain ⟨⟨f',pe,w7⟩,hc⟩:=h fn;have hc:=hc { w with heap:=(w.heap.push (.deferred (some []))).push (.loop (gg fn a.tmps ps assign body w.heap.size)) } rfl;obtain ⟨W1,LM⟩:∃ W1:World,W1={ w with heap:=(w.heap.push (.deferred (some []))).push (.loop (gg fn a.tmps ps assign body w.heap.size)) }:=⟨_,rfl⟩;rw [←LM] at hc;refine ⟨w.heap.size+1,[⟨.collected w.heap.size,#[]⟩],W1,⟨.fn (.func gf) lb,first++#[.func (.yield (w.heap.size+1)) #[] #[]]⟩,W1,gf,(first++#[.func (.yield (w.heap.size+1)) #[] #[]])++lb,W1,(by rw [LM];exact run_enterLoop_outer fn a.tmps ps assign body),?_,fun _ _=>trivial,?_,fun h=>(by cases h),?_⟩
   ·have Gy:(Act.re a dr).eval g=.func (.func gf) first lb:=by rw [fZ];exact hg
    simp only [resolve,Gy,Deferred.ofValue,Sem.run_pure];simp only [List.map_toArray,R6,S0];rfl
   ·exact gJ hP pe w7 ((first++#[.func (.yield (w.heap.size+1)) #[] #[]])++lb) _
   ·refine ml (r:=none) (hc.mono ?_);rintro e w3 ⟨v,rfl,hq,hs⟩;obtain ⟨rr,I6,Pe,hj⟩:=hq;rw [LM] at hs;have Pf:cv w w3:=(cv.heap (w:=w) ((cK.push _ _).trans (cK.push _ _))).trans hs;obtain ⟨o,ho⟩:∃ o,o=({ rr with state:=.exhausted }:Loop):=⟨_,rfl⟩;have HM:=run_endLoop (P:=P) I6 Pe;simp only [←ho] at hj HM;have Ej:cK w3.heap (w3.heap.setIfInBounds (w.heap.size+1) (.loop o)):=cK.setObj I6 (by simp);have E5:cv w (w3.putObj (w.heap.size+1) (.loop o)):=Pf.trans (cv.heap (w:=w3) Ej);have hD:w3.heap[w.heap.size]?=some (.deferred (some [])):=hs.2.2.2.2.2 _ _ (by
     show ((w.heap.push (.deferred (some []))).push (.loop (gg fn a.tmps ps assign body w.heap.size)))[w.heap.size]?=_;rw [SX,Re (by simp),S3])
    have HN:MixD m (w3.putObj (w.heap.size+1) (.loop o)).heap (⟨.collected w.heap.size,#[]⟩ :: dr) a.defers (w.heap.size :: l) :=
     .mark (Ej.2 _ _ hD) s5 (fun D5=>by have:=(hm.lt _ D5).2;rw [Sd (Rw _)] at this;cases this) (hm.keep E5.2.2.2.2)
    refine ⟨rr.pending,_,HM,?_⟩;split at hj
    ·rename_i hp;simp only [hp];exact ⟨trivial,a,_,rfl,hj,E5,bY.refl _ _ a,HN,fun h=>by cases h⟩
    ·rename_i hp;simp only [hp];exact wpIn_ret ⟨trivial,a,_,rfl,hj,E5,bY.refl _ _ a,HN,fun h=>by cases h⟩
    ·rename_i id hp;simp only [hp];exact wpIn_exit ⟨trivial,a,_,rfl,nH (Q:=fun i=>Q (.exit i) a) hj,E5,bY.refl _ _ a,HN,fun h=>by cases h⟩
    ·exact hj.elim
  ·exact h.elim
 | .scope _,_,_,_,_,_,_,_,_,h=>h.elim
 | .goto _,_,_,_,_,_,_,_,_,h=>h.elim
 | .refuse _,_,_,_,_,_,_,_,_,h=>h.elim
def oO (tmps:Array Value):ResultVar->Sem Value
 | .tmp t=>pure (tmps.getD t undef)
 | .cell a t=>do loadVar t (← asAddr (tmps.getD a undef))
theorem kr {P:Program}{a:Act}{w:World}:∀ {l:List ResultVar}{k:List Value->Prop},mT P a w.heap l k->∃ vs,k vs∧(l.mapM (oO a.tmps)).run P w=.ok vs w
 | [],_,h=>⟨[],h,rfl⟩
 | .tmp t :: r,k,h=>by
  obtain ⟨vs,hk,hr⟩:=kr (l:=r) h;exact ⟨_,hk,by simp [List.mapM_cons,oO,hr]⟩
 | .cell x t :: r,k,h=>by
  simp only [mT] at h;split at h
  ·rename_i ad hx;obtain ⟨v,cs,h,hc,Hj⟩:=iB h;obtain ⟨vs,hk,hr⟩:=kr (l:=r) h;refine ⟨_,hk,?_⟩;rw [List.mapM_cons];simp only [Sem.run_bind,oO,hx,asAddr,Sem.run_pure,Result.andThen_ok,Hj w hc,hr]
  ·exact h.elim
theorem kQ {P:Program}{fn:Func}{a:Act}{w:World}{k:Value->Prop} (h:mT P a w.heap fn.results.toList fun vs=>match vs with
  | [v]=>k v
  | vs=>k (.tuple vs.toArray)):∃ v,k v∧(results fn a.tmps).run P w=.ok v w:=by
 obtain ⟨vs,hk,hr⟩:=kr h;have e:(results fn a.tmps)=(do let vs ← fn.results.mapM (oO a.tmps);pure (if h:vs.size=1 then vs[0] else .tuple vs)):=by
  unfold results
  congr 1
 rw [e,Array.mapM_eq_mapM_toList];simp only [Sem.run_bind,Sem.run_map,hr,Result.andThen_ok,Sem.run_pure]
 match vs,hk with
 | [],hk=>exact ⟨_,hk,by simp⟩
 | [v],hk=>exact ⟨_,hk,by simp⟩
 | v :: u :: r,hk=>exact ⟨_,hk,by simp⟩
theorem pE {P:Program} (hP:GoodPg P){f:FuncId}{fn:Func} (hf:P.funcs[f]?=some fn){c:Code} (hc:fn.body=some c){Ls:rk}{args:Array Value}{Q:Value->ae->Prop}{H:ae}{X:Prop}
  (hX:X=ev P Ls c (Cn P fn Q) (ke fn args) H) (h:X) (hn:(bM c && cn c)=true:=by kernel_rfl):ag P f args Q H:=by
 rw [R4] at hn;refine ⟨⟨fn,hf,by rw [hc];rfl⟩,fun w hw=>?_⟩;subst hw;rw [hX] at h;have hs:=dv hP (r:=none) (m:=w.heap.size) c _ (ke fn args) [] [] w (.inl rfl) (Rw _) .nil h;refine calls_of_wp hf hc (wp_mono (wpIn_wide.1 hs) ?_);rintro e ar w' ⟨hp,a',l',ha,hq,hs,hk,hm,hl⟩;have Ei:=hl hn.2;subst Ei;have hd:a'.defers=[]:=hk.2.1 hn.1;have Gf:ar.defers=[]:=by
  rw [hd] at hm;generalize ar.defers=ds at hm;cases hm;rfl
 have main:mT P a' w'.heap fn.results.toList (fun vs=>match vs with
  | [v]=>Q v w'.heap
  | vs=>Q (.tuple vs.toArray) w'.heap)->ar.defers=[]∧∃ v,(results fn ar.tmps).run P w'=.ok v w'∧(∃ v_1,Ending.returned v=.returned v_1∧Q v_1 w'.heap∧cv w w'):=by
  intro hq;obtain ⟨v,hv,hr⟩:=kQ (k:=fun v=>Q v w'.heap) hq;rw [ha];exact ⟨Gf,v,hr,v,rfl,hv,hs⟩
 cases e with
 | normal=>exact main hq
 | ret=>exact main hq
 | panic c=>exact hp.elim
 | outgrown=>exact hp.elim
 | exit id=>exact hq.elim
 | goto l=>exact hq.elim
theorem fT.refl (n:Nat) (H:ae):fT n H H:=⟨rfl,fun _=>.inl rfl⟩
theorem sI {P:Program} (hP:GoodPg P){fn:Func}{mk:Bool}{n:Nat}{tmps:Array Value}{Q:Value->ae->Prop}{w0:World}{k:Nat}{dr da:List Deferred}{l:List Nat}{H:ae} (hm:MixD n H dr da l):∀ (H0:ae) (w:World),w.heap=H->n=w0.heap.size->cv w0 w->fT n H0 H->(mk=false->l=[]∧H0=H)->gH P fn mk n tmps Q da H0 ->
  LeavesInM Fence.wide k P fn tmps (fun e w'=>∃ v,e=.returned v∧Q v w'.heap∧cv w0 w') dr .returning w:=by
 have fin:∀ (H0 H:ae) (w:World),w.heap=H->cv w0 w->fT n H0 H->(mk=false->H0=H)->gH P fn mk n tmps Q [] H0->LeavesInM Fence.wide k P fn tmps (fun e w'=>∃ v,e=.returned v∧Q v w'.heap∧cv w0 w') [] .returning w:=by
  intro H0 H w hw hs Dn HO h;subst hw;have h:mT P ⟨tmps,[]⟩ w.heap fn.results.toList (fun vs=>match vs with
   | [v]=>Q v w.heap
   | vs=>Q (.tuple vs.toArray) w.heap):=by
   unfold gH at h;cases mk with
   | true=>exact h _ Dn
   | false=>rw [HO rfl] at h;exact h
  obtain ⟨v,hv,hr⟩:=kQ (a:=⟨tmps,[]⟩) (k:=fun v=>Q v w.heap) h;exact ⟨v,hr,v,rfl,hv,hs⟩
 have put:∀ {H:ae}{D:Nat}{ds:List Deferred},H[D]?=some (.deferred (some ds))->D<H.size:=fun h=>(Rt.1 h).1
 induction dr generalizing da l H with
 | nil =>
  intro H0 w hw hn hs Dn HO h;cases hm;exact fin H0 H w hw hs Dn (fun e=>(HO e).2) h
 | cons d dr ih =>
  intro H0 w hw hn hs Dn HO h;subst hw;cases hm with
  | @mark D _ _ l h1 h2 h3 hm =>
   have LN:mk=true:=by cases mk with | true=>rfl | false=>exact absurd (HO rfl).1 (by simp)
   refine ⟨by simp,.inl ⟨_,_,rfl,run_takeDeferred h1,?_⟩⟩;have an:=put h1;have hother:∀ b,b≠D->(w.heap.setIfInBounds D (Obj.deferred none))[b]?=w.heap[b]?:=fun b hb=>Se (S4 hb);have Dd:(w.heap.setIfInBounds D (Obj.deferred none))[D]?=some (.deferred none):=by simp [an]
   refine ih (da:=da) (l:=l) (H:=(w.putObj D (.deferred none)).heap) ?_ H0 (w.putObj D (.deferred none)) rfl hn ?_ ?_ (fun e=>by rw [LN] at e;cases e) h
   ·have:∀ {dr da:List Deferred}{l:List Nat},D∉l->MixD n w.heap dr da l->MixD n (w.putObj D (.deferred none)).heap dr da l:=by
     intro dr da l hD hm
     induction hm with
     | nil=>exact .nil
     | @mark D' _ _ _ g1 g2 g3 _ ih =>
      have c9:D'≠D:=fun e=>hD (by simp [e]);exact .mark ((hother D' c9).trans g1) g2 g3 (ih fun h=>hD (by simp [h]))
     | call _ ih=>exact .call (ih hD)
    exact this h3 hm
   ·refine ⟨hs.1,hs.2.1,hs.2.2.1,hs.2.2.2.1,by rw [World.putObj_size];exact hs.2.2.2.2.1,fun b ds hb=>?_⟩;have s6:b<w0.heap.size:=(Rt.1 hb).1;exact (hother b (by omega)).trans (hs.2.2.2.2.2 b ds hb)
   ·refine ⟨by rw [World.putObj_size];exact Dn.1,fun b=>?_⟩;by_cases LO:b=D
    ·subst LO;rcases Dn.2 b with h4 | ⟨_,_,h4⟩
     ·exact .inr ⟨h2,by rw [←h4];exact h1,Dd⟩
     ·rw [h1] at h4;cases h4
    ·rcases Dn.2 b with h4 | ⟨h4,h5,h6⟩
     ·exact .inl ((hother b LO).trans h4)
     ·exact .inr ⟨h4,h5,(hother b LO).trans h6⟩
  | @call _ _ da l hm =>
   unfold gH at h;split at h
   ·rename_i g cap ht;have hc:rC P g (d.args++cap) (fun H''=>gH P fn mk n tmps Q da H'') w.heap:=by
     cases mk with
     | true=>exact h _ Dn
     | false=>have:=(HO rfl).2;subst this;exact h
    obtain ⟨⟨f',pe,w7⟩,hc⟩:=hc;refine ⟨by simp,.inr ⟨fun h=>(by cases h),.func g,cap,g,d.args++cap,ht,?_,fun _ _=>trivial,?_⟩⟩
    ·rw [ht];exact gJ hP pe w7 _ _
    ·have Oa:=hc w .returning rfl;refine CallsDIn.mono (F:=Fence.wide) (n:=k-1) ⟨Oa.1,fun c cs hu _=>Oa.2 c cs hu (room_wide _)⟩ ?_;rintro e u' w' ⟨rfl,⟨v,rfl⟩,hq,Dv⟩;exact ih (hm.keep Dv.2.2.2.2) w'.heap w' rfl hn (hs.trans Dv) (fT.refl _ _) (fun e=>⟨(HO e).1,rfl⟩) hq
   ·exact h.elim
theorem nz {P:Program} (hP:GoodPg P){f:FuncId}{fn:Func} (hf:P.funcs[f]?=some fn){c:Code} (hc:fn.body=some c){Ls:rk}{args:Array Value}{Q:Value->ae->Prop}{H:ae}{X:Prop}{mk:Bool}
  (hX:X=ev P Ls c (Cq P fn mk H.size Q) (ke fn args) H) (h:X) (hn:(!mk)=cn c:=by kernel_rfl):ag P f args Q H:=by
 refine ⟨⟨fn,hf,by rw [hc];rfl⟩,fun w hw=>?_⟩;subst hw;rw [hX] at h;have hs:=dv hP (r:=none) (m:=w.heap.size) c _ (ke fn args) [] [] w (.inl rfl) (Rw _) .nil h;refine callsIn_wide (n:=0).1 (callsIn_of_wp_marks hf hc trivial (wpIn_mono hs ?_));rintro e ar w' ⟨hp,a',l',ha,hq,hs,hk,hm,hl⟩;have main:gH P fn mk w.heap.size a'.tmps Q a'.defers w'.heap->LeavesInM Fence.wide 0 P fn ar.tmps (fun e w'=>∃ v,e=.returned v∧Q v w'.heap∧cv w w') ar.defers .returning w':=by
  intro hq
  have:=sI hP (w0:=w) (k:=0) hm w'.heap w' rfl rfl hs (fT.refl _ _) (fun e=>⟨hl (by rw [←hn,e];rfl),rfl⟩) hq;rw [ha];exact this
 cases e with
 | normal=>exact main hq
 | ret=>exact main hq
 | panic c=>exact hp.elim
 | outgrown=>exact hp.elim
 | exit id=>exact hq.elim
 | goto l=>exact hq.elim
theorem tt {P:Program} (hP:GoodPg P){Ls Ls':rk}{l:Nat}{args:Array Value}{r:Loop}{Q:Value->ae->Prop}{H:ae} (hl:H[l]?=some (.loop r)) (s5:args.size=r.params.size) (hq:(di r.assign && bM r.assign && di r.body && bM r.body)=true)
  (h:ev P Ls r.assign (uv l fun a1 H1=>ev P Ls' r.body (uz l Q) a1 H1) ⟨(r.params.zip args).foldl (fun tmps (t,a)=>tmps.setIfInBounds t a) r.tmps,[]⟩ H):eP P l args Q H:=by
 intro w hw;subst hw;simp only [R4] at hq;obtain ⟨⟨⟨q1,q2⟩,q3⟩,q4⟩:=hq;refine ⟨r.fn,_,r.assign,r.body,run_yield hl s5,roundIn_of_wpIn trivial ?_⟩;have h1:=dv hP (r:=some l) (m:=0) (Ls:=Ls) r.assign _ _ [] [] w (.inr ⟨q1,q2⟩) (RL _) .nil h;refine wpIn_mono h1 ?_;rintro e ar w1 ⟨hp,a1,l1,ha,Ge,hs,hk,hm,Ek⟩;cases e with
 | normal =>
  obtain ⟨r1,Hj,lc,hb⟩:=Ge;have EF:cK w1.heap (w1.heap.setIfInBounds l (.loop { r1 with state:=.busy })):=cK.setObj Hj (by simp);have w9:cv w (w1.putObj l (.loop { r1 with state:=.busy })):=hs.trans (cv.heap (w:=w1) EF);refine ⟨w1.putObj l (.loop { r1 with state:=.busy }),run_beginRound Hj lc,?_⟩;rw [ha];refine wpIn_mono (dv hP (r:=some l) (m:=0) r.body _ a1 ar.defers l1 (w1.putObj l (.loop { r1 with state:=.busy })) (.inr ⟨q3,q4⟩) (RL _) (hm.keep EF) hb) ?_;rintro e ar' w3 ⟨Gv,a2,l2,ha2,EO,Gz,HP,K0,I6⟩;have fin:∀ (r2:Loop) (o:Loop),w3.heap[l]?=some (.loop r2)->cv w (w3.putObj l (.loop o)):=fun r2 o h2=>(w9.trans Gz).trans (cv.heap (w:=w3) (cK.setObj h2 (by simp)));cases e with
  | normal =>
   obtain ⟨r2,h2,hQ⟩:=EO;exact ⟨_,_,run_endRound none h2,_,rfl,hQ,fin r2 _ h2⟩
  | ret =>
   obtain ⟨r2,h2,hQ⟩:=EO;exact ⟨_,_,run_endRound (some .ret) h2,_,rfl,hQ,fin r2 _ h2⟩
  | exit id =>
   obtain ⟨r2,h2,hQ⟩:=EO;exact ⟨_,_,run_endRound (some (.exit id)) h2,_,rfl,hQ,fin r2 _ h2⟩
  | goto t=>exact EO.elim
  | panic c=>exact Gv.elim
  | outgrown=>exact Gv.elim
 | ret=>exact Ge.elim
 | exit id=>exact Ge.elim
 | goto t=>exact Ge.elim
 | panic c=>exact hp.elim
 | outgrown=>exact hp.elim
theorem mq {P:Program} (hP:GoodPg P){Ls Ls':rk}{l:Nat}{args:Array Value}{r:Loop}{Q:Value->ae->Prop}{H:ae}{X:Prop} (hl:H[l]?=some (.loop r)) (s5:args.size=r.params.size) (hq:(di r.assign && bM r.assign && di r.body && bM r.body)=true)
  (hX:X=ev P Ls r.assign (uv l fun a1 H1=>ev P Ls' r.body (uz l Q) a1 H1) ⟨(r.params.zip args).foldl (fun tmps (t,a)=>tmps.setIfInBounds t a) r.tmps,[]⟩ H) (h:X):eP P l args Q H :=
 tt hP hl s5 hq (by rw [hX] at h;exact h)
end Kw
namespace Go.Proofs.YtcfmnlapccgllaaGreatDoor
open Kw
abbrev QT:=Value->ae->Prop
noncomputable abbrev PP:=Tryz.prog
theorem good:GoodPg PP:=⟨by kernel_rfl,by kernel_rfl⟩
abbrev bf (b : Nat) : Addr := ⟨b, 0, none⟩
abbrev ci (b o : Nat) : Addr := (⟨b, 0, none⟩ : Addr).add o
abbrev bk (n m : Int) : Value := .tuple #[.int .i64 n, .int .i64 m]
abbrev pi (f : FuncId) (x : Array Value) (Q : Value -> ae -> Prop) (H : ae) : Prop := ag PP f x Q H
abbrev mJ {α : Type} (x : Sem α) (Q : α -> ae -> Prop) (H : ae) : Prop := cc PP x Q H
abbrev bx (b : Bool) : Value := .bool b
abbrev bK (f : FuncId) (x : Array Value) (H : ae) (K : Bool -> ae -> Prop) : Prop := ag PP f x (fun v H => ∃ x0 : Bool, v = .bool x0 ∧ K x0 H) H
abbrev vu (f : FuncId) (x : Array Value) (H : ae) (K : Nat -> Array Value -> Array Value -> ae -> Prop) : Prop := ag PP f x (fun v H => ∃ x0 : Nat, ∃ x1 : Array Value, ∃ x2 : Array Value, v = .func (.func x0) x1 x2 ∧ K x0 x1 x2 H) H
abbrev aH (f : FuncId) (x : Array Value) (H : ae) (K : Int -> ae -> Prop) : Prop := ag PP f x (fun v H => ∃ x0 : Int, v = .int .i64 x0 ∧ K x0 H) H
abbrev cG (f : FuncId) (x : Array Value) (H : ae) (K : Option Addr -> Nat -> Nat -> ae -> Prop) : Prop := ag PP f x (fun v H => ∃ x0 : Option Addr, ∃ x1 : Nat, ∃ x2 : Nat, v = .slice x0 x1 x2 ∧ K x0 x1 x2 H) H
abbrev Bd (f : FuncId) (x : Array Value) (H : ae) (K : Option Nat -> ae -> Prop) : Prop := ag PP f x (fun v H => ∃ x0 : Option Nat, v = .map x0 ∧ K x0 H) H
abbrev dB (f : FuncId) (x : Array Value) (H : ae) (K : Option Addr -> ae -> Prop) : Prop := ag PP f x (fun v H => ∃ x0 : Option Addr, v = .pointer x0 ∧ K x0 H) H
abbrev cB (f : FuncId) (x : Array Value) (H : ae) (K : ByteArray -> ae -> Prop) : Prop := ag PP f x (fun v H => ∃ x0 : ByteArray, v = .string x0 ∧ K x0 H) H
abbrev ah (b : Bool) (x y : Prop) : Prop := cond b x y
abbrev jq (f : FuncId) (x : Array Value) (H : ae) (K : Int -> Int -> Option Addr -> Nat -> Nat -> ae -> Prop) : Prop := ag PP f x (fun v H => ∃ x0 : Int, ∃ x1 : Int, ∃ x2 : Option Addr, ∃ x3 : Nat, ∃ x4 : Nat, v = .agg #[.int .i64 x0, .int .i64 x1, .slice x2 x3 x4] ∧ K x0 x1 x2 x3 x4 H) H
abbrev jr (f : FuncId) (x : Array Value) (H : ae) (K : Int -> Bool -> ae -> Prop) : Prop := ag PP f x (fun v H => ∃ x0 : Int, ∃ x1 : Bool, v = .tuple #[.int .i64 x0, .bool x1] ∧ K x0 x1 H) H
abbrev iH (f : FuncId) (x : Array Value) (H : ae) (K : Int -> Int -> Int -> Int -> ae -> Prop) : Prop := ag PP f x (fun v H => ∃ x0 : Int, ∃ x1 : Int, ∃ x2 : Int, ∃ x3 : Int, v = .tuple #[.int .i64 x0, .int .i64 x1, .int .i64 x2, .int .i64 x3] ∧ K x0 x1 x2 x3 H) H
abbrev cd (f : FuncId) (x : Array Value) (H : ae) (K : Int -> Int -> Int -> ae -> Prop) : Prop := ag PP f x (fun v H => ∃ x0 : Int, ∃ x1 : Int, ∃ x2 : Int, v = .tuple #[.int .i64 x0, .int .i64 x1, .int .i64 x2] ∧ K x0 x1 x2 H) H
abbrev aA (f : FuncId) (x : Array Value) (H : ae) (K : Int -> Int -> ae -> Prop) : Prop := ag PP f x (fun v H => ∃ x0 : Int, ∃ x1 : Int, v = .tuple #[.int .i64 x0, .int .i64 x1] ∧ K x0 x1 H) H
abbrev iI (f : FuncId) (x : Array Value) (H : ae) (K : Option Addr -> Nat -> Nat -> Int -> ae -> Prop) : Prop := ag PP f x (fun v H => ∃ x0 : Option Addr, ∃ x1 : Nat, ∃ x2 : Nat, ∃ x3 : Int, v = .tuple #[.slice x0 x1 x2, .int .i64 x3] ∧ K x0 x1 x2 x3 H) H
abbrev dU (f : FuncId) (x : Array Value) (H : ae) (K : Option Addr -> Int -> ae -> Prop) : Prop := ag PP f x (fun v H => ∃ x0 : Option Addr, ∃ x1 : Int, v = .tuple #[.pointer x0, .int .i64 x1] ∧ K x0 x1 H) H
abbrev fU (f : FuncId) (x : Array Value) (H : ae) (K : ByteArray -> Bool -> ae -> Prop) : Prop := ag PP f x (fun v H => ∃ x0 : ByteArray, ∃ x1 : Bool, v = .tuple #[.string x0, .bool x1] ∧ K x0 x1 H) H
abbrev dV (f : FuncId) (x : Array Value) (H : ae) (K : ByteArray -> Int -> ae -> Prop) : Prop := ag PP f x (fun v H => ∃ x0 : ByteArray, ∃ x1 : Int, v = .tuple #[.string x0, .int .i64 x1] ∧ K x0 x1 H) H
abbrev eH (f : FuncId) (x : Array Value) (H : ae) (K : ae -> Prop) : Prop := ag PP f x (fun v H => v = .tuple #[] ∧ K  H) H
abbrev bA (a b : Int) : Bool := decide (a > b)
abbrev aZ (a b : Int) : Bool := decide (a < b)
abbrev pj (H : ae) (a : Addr) (K : Bool -> Prop) : Prop := ∃ x0 : Bool, aj H a = some (.bool x0) ∧ K x0
abbrev vv (H : ae) (a : Addr) (K : Nat -> Array Value -> Array Value -> Prop) : Prop := ∃ x0 : Nat, ∃ x1 : Array Value, ∃ x2 : Array Value, aj H a = some (.func (.func x0) x1 x2) ∧ K x0 x1 x2
abbrev aM (H : ae) (a : Addr) (K : Int -> Prop) : Prop := ∃ x0 : Int, aj H a = some (.int .i64 x0) ∧ K x0
abbrev aO (H : ae) (a : Addr) (K : Option Addr -> Nat -> Nat -> Prop) : Prop := ∃ x0 : Option Addr, ∃ x1 : Nat, ∃ x2 : Nat, aj H a = some (.slice x0 x1 x2) ∧ K x0 x1 x2
abbrev gE (H : ae) (a : Addr) (K : Option Nat -> Prop) : Prop := ∃ x0 : Option Nat, aj H a = some (.map x0) ∧ K x0
abbrev aQ (H : ae) (a : Addr) (K : Option Addr -> Prop) : Prop := ∃ x0 : Option Addr, aj H a = some (.pointer x0) ∧ K x0
abbrev fE (H : ae) (a : Addr) (K : ByteArray -> Prop) : Prop := ∃ x0 : ByteArray, aj H a = some (.string x0) ∧ K x0
abbrev bl (q : Addr) (n : Int) (k : Nat) : Addr := q.add (Int.toNat n * k)
abbrev dO (x : Array Value) : Value := .agg x
abbrev ac (n : Int) : Value := .int .i64 n
abbrev bm (i : Int) (l : Nat) (a : Option Addr) (K : Addr -> Prop) : Prop := ((0 : Int) <= i ∧ i < (l : Int)) ∧ ∃ q, a = some q ∧ K q
abbrev sx (A : (List Value -> ae -> Prop) -> Prop) (B : ae -> Prop) : Prop := ∃ J : List Value -> ae -> Prop, A J ∧ ∀ w H, J w H -> ∀ _g : Nat -> Value, w = [] ∧ B H
abbrev Be (A : (List Value -> ae -> Prop) -> Prop) (B : Bool -> ae -> Prop) : Prop := ∃ J : List Value -> ae -> Prop, A J ∧ ∀ w H, J w H -> ∀ _g : Nat -> Value, ∃ x0 : Bool, w = [.bool x0] ∧ B x0 H
abbrev Bf (A : (List Value -> ae -> Prop) -> Prop) (B : Nat -> Array Value -> Array Value -> ae -> Prop) : Prop := ∃ J : List Value -> ae -> Prop, A J ∧ ∀ w H, J w H -> ∀ _g : Nat -> Value, ∃ x0 : Nat, ∃ x1 : Array Value, ∃ x2 : Array Value, w = [.func (.func x0) x1 x2] ∧ B x0 x1 x2 H
abbrev vw (A : (List Value -> ae -> Prop) -> Prop) (B : Int -> ae -> Prop) : Prop := ∃ J : List Value -> ae -> Prop, A J ∧ ∀ w H, J w H -> ∀ _g : Nat -> Value, ∃ x0 : Int, w = [.int .i64 x0] ∧ B x0 H
abbrev Bg (A : (List Value -> ae -> Prop) -> Prop) (B : Option Addr -> Nat -> Nat -> ae -> Prop) : Prop := ∃ J : List Value -> ae -> Prop, A J ∧ ∀ w H, J w H -> ∀ _g : Nat -> Value, ∃ x0 : Option Addr, ∃ x1 : Nat, ∃ x2 : Nat, w = [.slice x0 x1 x2] ∧ B x0 x1 x2 H
abbrev Bh (A : (List Value -> ae -> Prop) -> Prop) (B : Option Addr -> ae -> Prop) : Prop := ∃ J : List Value -> ae -> Prop, A J ∧ ∀ w H, J w H -> ∀ _g : Nat -> Value, ∃ x0 : Option Addr, w = [.pointer x0] ∧ B x0 H
abbrev Cr (x : List Value) (H : ae) (B : (List Value -> ae -> Prop) -> (List Value -> ae -> Nat) -> List Value -> ae -> Prop) : Prop := ∃ (I : List Value -> ae -> Prop) (μ : List Value -> ae -> Nat), I x H ∧ ∀ w H, I w H -> ∀ _g : Nat -> Value, w = [] ∧ B I μ w H 
abbrev ce (x : List Value) (H : ae) (B : (List Value -> ae -> Prop) -> (List Value -> ae -> Nat) -> List Value -> ae -> Int -> Prop) : Prop := ∃ (I : List Value -> ae -> Prop) (μ : List Value -> ae -> Nat), I x H ∧ ∀ w H, I w H -> ∀ _g : Nat -> Value, ∃ x0 : Int, w = [.int .i64 x0] ∧ B I μ w H x0
abbrev yw (x : List Value) (H : ae) (B : (List Value -> ae -> Prop) -> (List Value -> ae -> Nat) -> List Value -> ae -> Int -> Int -> Prop) : Prop := ∃ (I : List Value -> ae -> Prop) (μ : List Value -> ae -> Nat), I x H ∧ ∀ w H, I w H -> ∀ _g : Nat -> Value, ∃ x0 : Int, ∃ x1 : Int, w = [.int .i64 x0, .int .i64 x1] ∧ B I μ w H x0 x1
abbrev tT (x : List Value) (H : ae) (B : (List Value -> ae -> Prop) -> (List Value -> ae -> Nat) -> List Value -> ae -> Int -> Option Addr -> Nat -> Nat -> Int -> Prop) : Prop := ∃ (I : List Value -> ae -> Prop) (μ : List Value -> ae -> Nat), I x H ∧ ∀ w H, I w H -> ∀ _g : Nat -> Value, ∃ x0 : Int, ∃ x1 : Option Addr, ∃ x2 : Nat, ∃ x3 : Nat, ∃ x4 : Int, w = [.int .i64 x0, .slice x1 x2 x3, .int .i64 x4] ∧ B I μ w H x0 x1 x2 x3 x4
abbrev Bi (x : List Value) (H : ae) (B : (List Value -> ae -> Prop) -> (List Value -> ae -> Nat) -> List Value -> ae -> Option Addr -> Nat -> Nat -> Prop) : Prop := ∃ (I : List Value -> ae -> Prop) (μ : List Value -> ae -> Nat), I x H ∧ ∀ w H, I w H -> ∀ _g : Nat -> Value, ∃ x0 : Option Addr, ∃ x1 : Nat, ∃ x2 : Nat, w = [.slice x0 x1 x2] ∧ B I μ w H x0 x1 x2
abbrev dq (x : List Value) (H : ae) (B : (List Value -> ae -> Prop) -> (List Value -> ae -> Nat) -> List Value -> ae -> Option Addr -> Nat -> Nat -> Int -> Prop) : Prop := ∃ (I : List Value -> ae -> Prop) (μ : List Value -> ae -> Nat), I x H ∧ ∀ w H, I w H -> ∀ _g : Nat -> Value, ∃ x0 : Option Addr, ∃ x1 : Nat, ∃ x2 : Nat, ∃ x3 : Int, w = [.slice x0 x1 x2, .int .i64 x3] ∧ B I μ w H x0 x1 x2 x3
abbrev pm (x : List Value) (H : ae) (B : (List Value -> ae -> Prop) -> (List Value -> ae -> Nat) -> List Value -> ae -> ByteArray -> Int -> Prop) : Prop := ∃ (I : List Value -> ae -> Prop) (μ : List Value -> ae -> Nat), I x H ∧ ∀ w H, I w H -> ∀ _g : Nat -> Value, ∃ x0 : ByteArray, ∃ x1 : Int, w = [.string x0, .int .i64 x1] ∧ B I μ w H x0 x1
abbrev ax (a : Option Addr) (l c : Nat) : Value := .slice a l c
abbrev bt (I : List Value -> ae -> Prop) (μ : List Value -> ae -> Nat) (x : List Value) (H : ae) (w : List Value) (G : ae) : Prop := I x H ∧ μ x H < μ w G
abbrev eS (r : Option Nat) : Value := .map r
abbrev ao (p : Option Addr) (K : Addr -> Prop) : Prop := ∃ q, p = some q ∧ K q
abbrev ch {α : Type} (p : Option α) : Bool := Option.isNone p
abbrev Cv (b : Nat) : Value := .pointer (some ⟨b, 0, none⟩)
abbrev am (p : Option Addr) : Value := .pointer p
abbrev bg (H : ae) (x : Array Value) (t : TypeId) : ae := H.push (.cells x t)
abbrev sy (x : Sem Value) (H : ae) (K : Int -> ae -> Prop) : Prop := cc PP x (fun v H => ∃ x0 : Int, v = .int .i64 x0 ∧ K x0 H) H
abbrev bE (x : Sem Value) (H : ae) (K : Option Addr -> Nat -> Nat -> ae -> Prop) : Prop := cc PP x (fun v H => ∃ x0 : Option Addr, ∃ x1 : Nat, ∃ x2 : Nat, v = .slice x0 x1 x2 ∧ K x0 x1 x2 H) H
abbrev Bj (x : Sem Value) (H : ae) (K : Option Addr -> ae -> Prop) : Prop := cc PP x (fun v H => ∃ x0 : Option Addr, v = .pointer x0 ∧ K x0 H) H
abbrev Bk (x : Sem Value) (H : ae) (K : ByteArray -> ae -> Prop) : Prop := cc PP x (fun v H => ∃ x0 : ByteArray, v = .string x0 ∧ K x0 H) H
abbrev je {α : Type} (x : Sem α) (H : ae) (K : ae -> Prop) : Prop := cc PP x (fun _ H => K H) H
abbrev bh (s : ByteArray) : Value := .string s
abbrev az {α : Type} (a : α) (f : α -> Prop) : Prop := f a
abbrev bi (H : ae) (a : Addr) (v : Value) (K : ae -> Prop) : Prop := Wr H a ∧ K (bc H a v)
abbrev rH (x : Sem Value) (H : ae) (K : Nat -> Array Value -> Array Value -> Bool -> ae -> Prop) : Prop := cc PP x (fun v H => ∃ x0 : Nat, ∃ x1 : Array Value, ∃ x2 : Array Value, ∃ x3 : Bool, v = .tuple #[.func (.func x0) x1 x2, .bool x3] ∧ K x0 x1 x2 x3 H) H
abbrev kT (x : Sem Value) (H : ae) (K : Int -> Bool -> ae -> Prop) : Prop := cc PP x (fun v H => ∃ x0 : Int, ∃ x1 : Bool, v = .tuple #[.int .i64 x0, .bool x1] ∧ K x0 x1 H) H
abbrev mK (i : Int) (s : ByteArray) (K : UInt8 -> Prop) : Prop := ∃ u : UInt8, ((0 : Int) <= i ∧ s[Int.toNat i]? = some u) ∧ K u
abbrev bn (x : Array Value) : Value := .tuple x
abbrev aI (n : Int) : Int := IntKind.wrap .i64 n
theorem okL {f : FuncId} {fn : Func} (hf : PP.funcs[f]? = some fn) {c : Code} (hc : fn.body = some c) (Ls : rk) {args : Array Value} {Q : Value -> ae -> Prop} {H : ae} {X : Prop} (h : X) (hX : X = ev PP Ls c (Cn PP fn Q) (ke fn args) H := by kernel_rfl) (hn : (bM c && cn c) = true := by kernel_rfl) : ag PP f args Q H := pE good hf hc hX h hn
theorem okF {f : FuncId} {fn : Func} (hf : PP.funcs[f]? = some fn) {c : Code} (hc : fn.body = some c) {args : Array Value} {Q : Value -> ae -> Prop} {H : ae} {X : Prop} (h : X) (hX : X = ev PP (fun _ => none) c (Cn PP fn Q) (ke fn args) H := by kernel_rfl) (hn : (bM c && cn c) = true := by kernel_rfl) : ag PP f args Q H := pE good hf hc hX h hn
abbrev cE:Nat:=0
abbrev aP:Nat:=1
abbrev fb:Nat:=2
section
variable {Q:QT}{H:ae}
variable {a b c d A B D P:Option Addr}{i j k m n x y z I J K M N:Int}{l o r s u v L O R S U V:Nat}{t w T W:ByteArray}{e E g:Bool}{q:Option Nat}{p X Y Z:Value}{F G:Addr}
theorem zV (h:ah (bA i 0) (ah (Int.tmod i 4 == 0) (Q (ac (aI (Int.tdiv i 4))) H) (Q (ac 0) H)) (Q (ac 0) H)):ag PP 15 #[ac i] Q H :=
 okF Tryz.func15 rfl h
theorem AR (h:az (bn #[am none,ac 1]) fun a=>ah (aZ i 0) (Q a H) (ah (bA i 4096) (Q a H) (az (H.push (.map #[] 0)) fun a=>Q (bn #[am (some (bf a.size)),ac 0]) (bg a #[ac i,ax none 0 0,eS (some H.size)] 169)))):ag PP 24 #[ac i] Q H :=
 okF Tryz.func24 rfl h
theorem um (h:Q (ax (some (bf H.size)) 14 14) (bg H #[bh (⟨#[79,98,106,101,99,116]⟩:ByteArray),bh (⟨#[85,110,100,101,102,105,110,101,100,79,98,106,101,99,116]⟩:ByteArray),bh (⟨#[70,97,108,115,101]⟩:ByteArray),bh (⟨#[84,114,117,101]⟩:ByteArray),bh (⟨#[73,110,116,101,103,101,114]⟩:ByteArray),bh (⟨#[83,121,109,98,111,108]⟩:ByteArray),bh (⟨#[83,116,114,105,110,103]⟩:ByteArray),bh (⟨#[65,114,114,97,121]⟩:ByteArray),bh (⟨#[67,108,97,115,115]⟩:ByteArray),bh (⟨#[77,101,116,104,111,100]⟩:ByteArray),bh (⟨#[66,108,111,99,107]⟩:ByteArray),bh (⟨#[67,111,110,116,101,120,116]⟩:ByteArray),bh (⟨#[80,114,111,99,101,115,115]⟩:ByteArray),bh (⟨#[77,101,115,115,97,103,101]⟩:ByteArray)] 9)):ag PP 25 #[] Q H :=
 okF Tryz.func25 rfl h
theorem zm (h:aA 45 #[ac i] H fun a _ b=>Q (ac a) b):ag PP 27 #[ac i] Q H :=
 okF Tryz.func27 rfl h
theorem Ag (h:az (bn #[am none,ac 1]) fun a=>ah (aZ i 0) (Q a H) (ah (bA i 4096) (Q a H) (Q (bn #[am (some (bf H.size)),ac 0]) (bg H #[ac i,ax none 0 0] 176)))):ag PP 32 #[ac i] Q H :=
 okF Tryz.func32 rfl h
theorem A7 (h:ah (decide (i<=3)) (Q (bk (aI (aI (5+i)-1)) 0) H) (ah (aZ i 18) (Q (bk 12 7) H) (ah (i == 18) (Q (bk 11 0) H) (ah (i == 19) (Q (bk 11 8) H) (Q (bk 11 14) H))))):ag PP 33 #[ac i] Q H :=
 okF Tryz.func33 rfl h
theorem zx (h:Q (ac (aI (4*i))) H):ag PP 35 #[ac i] Q H :=
 okF Tryz.func35 rfl h
theorem zH (h:ah (ch a) (Q (bk 0 2) H) (bK 103 #[bh t] H fun b c=>ah (!b) (Q (bk 0 61) c) (aH 104 #[am a,bh t] c fun b c=>ah (decide (b≥0)) (Q (bk b 0) c) (ao a fun b=>aO c (b.add 1) fun _ b _=>ao a fun d=>aM c d fun d=>ah (decide ((b:Int)≥d)) (Q (bk 0 60) c) (ao a fun b=>aO c (b.add 1) fun b d e=>bE (Builtin.append_ #[73,73] 73 #[ax b d e,ax (some (bf c.size)) 1 1]) (bg c #[bh t] 9) fun b c d e=>ao a fun f=>bi e (f.add 1) (ax b c d) fun b=>ao a fun a=>aO b (a.add 1) fun _ a _=>Q (bk (aI ((a:Int)-1)) 0) b))))):ag PP 36 #[.pointer a,.string t] Q H :=
 okF Tryz.func36 rfl h
theorem Ay (h:Q (ac (aI (aI (4*i)+2))) H):ag PP 38 #[ac i] Q H :=
 okF Tryz.func38 rfl h
theorem y0 (h:Q (ac (aI (aI (2*i)+1))) H):ag PP 39 #[ac i] Q H :=
 okF Tryz.func39 rfl h
theorem ug (h:ah (aZ i 1) (Q (bk 0 1) H) (ah (bA i 65536) (Q (bk 0 1) H) (Q (bk (jw .i64 i 2) 0) H))):ag PP 45 #[ac i] Q H :=
 okF Tryz.func45 rfl h
theorem zS {g1:Array Value}{h1:Array Value}(h:aH 110 #[ax a l o,.func (.func r) g1 h1] H fun a b=>Q (bx (decide (a≥0))) b):ag PP 48 #[.slice a l o,.func (.func r) g1 h1] Q H :=
 okF Tryz.func48 rfl h
theorem AM (h:az (qs .i64 i 3) fun a=>((0:Int)<=a∧a<(4:Int))∧aM H (ci 1 (Int.toNat a*1)) fun a=>az (bA (kg .i64 i 2) 65536) fun b=>az (ac 0) fun c=>az (decide (i<=0)) fun d=>az (ac a) fun e=>az (decide (kg .i64 i 2≥4096)) fun f=>ah (a == 1) (bK 111 #[ac (kg .i64 i 1)] H fun g j=>ah (!g) (Q c j) (ah (a == 2) (ah (aZ i 0) (Q c j) (ah f (Q c j) (ah (a == 3) (ah d (Q c j) (ah b (Q c j) (Q e j))) (Q e j)))) (ah (a == 3) (ah d (Q c j) (ah b (Q c j) (Q e j))) (Q e j)))) (ah (a == 2) (ah (aZ i 0) (Q c H) (ah f (Q c H) (ah (a == 3) (ah d (Q c H) (ah b (Q c H) (Q e H))) (Q e H)))) (ah (a == 3) (ah d (Q c H) (ah b (Q c H) (Q e H))) (Q e H)))):ag PP 50 #[ac i] Q H :=
 okF Tryz.func50 rfl h
theorem zd (h:sx (fun a=>ah (Int.tmod i 2 != 0) (ah (decide (i≥(-2147483647))) (ah (decide (i<=2147483647)) (Q (ac 1) H) (a [] H)) (a [] H)) (a [] H)) fun a=>az (Int.tmod i 4) fun b=>az (decide (i<=262144)) fun c=>az (ac 0) fun d=>ah (b == 2) (ah (aZ i 16384) (Q (ac 2) a) (ah (b == 0) (ah (bA i 0) (ah c (Q (ac 3) a) (Q d a)) (Q d a)) (Q d a))) (ah (b == 0) (ah (bA i 0) (ah c (Q (ac 3) a) (Q d a)) (Q d a)) (Q d a))):ag PP 51 #[ac i] Q H :=
 okL Tryz.func51 rfl (fun | 1003=>some [] | _=>none) h
theorem zi (h:az (bx false) fun a=>ah (iV t (⟨#[]⟩:ByteArray)) (Q a H) (ah (bA (t.size:Int) 32) (Q a H) (mK 0 t fun b=>ah (aZ (b.toNat:Int) i) (Q a H) (mK 0 t fun b=>ah (bA (b.toNat:Int) j) (Q a H) (bE (convert 9 144 (bh t)) H fun b c _ d=>ce [ac 0] d fun d e f g i=>ah (aZ i (c:Int)) (bm i c b fun b=>∃ c,aj g (bl b i 1)=some (.int .u8 c)∧az (ac (aI (i+1))) fun b=>az (aZ c 48) fun i=>az (bA c 57) fun j=>ah (aZ c 97) (ah (aZ c 65) (ah i (Q a g) (ah j (Q a g) (bt d e [b] g f g))) (ah (bA c 90) (ah i (Q a g) (ah j (Q a g) (bt d e [b] g f g))) (bt d e [b] g f g))) (ah (bA c 122) (ah (aZ c 65) (ah i (Q a g) (ah j (Q a g) (bt d e [b] g f g))) (ah (bA c 90) (ah i (Q a g) (ah j (Q a g) (bt d e [b] g f g))) (bt d e [b] g f g))) (bt d e [b] g f g))) (Q (bx true) g)))))):ag PP 57 #[.string t,.int .u8 i,.int .u8 j] Q H :=
 okL Tryz.func57 rfl (fun | 4=>some [(31,3)] | _=>none) h
theorem Aa (h:bK 126 #[bh t] H fun a b=>ah a (mK 0 t fun a=>Q (bx (decide ((a.toNat:Int)<=90))) b) (Q (bx false) b)):ag PP 67 #[.string t] Q H :=
 okF Tryz.func67 rfl h
theorem A4 (h:az (bx false) fun a=>ah (Int.tmod i 2 != 0) (ah (decide (i≥(-2147483647))) (Q (bx (decide (i<=2147483647))) H) (Q a H)) (ah (Int.tmod i 4 == 0) (ah (decide (i≥4)) (Q (bx (decide (i<=262144))) H) (Q a H)) (ah (decide (i≥2)) (Q (bx (decide (i<=16382))) H) (Q a H)))):ag PP 79 #[ac i] Q H :=
 okF Tryz.func79 rfl h
theorem zu (h:bK 164 #[am a] H fun b c=>ah b (Q (bk 0 2) c) (ah (aZ (t.size:Int) 1) (Q (bk 0 61) c) (ah (bA (t.size:Int) 96) (Q (bk 0 61) c) (ao a fun b=>gE c (b.add 2) fun b=>kT (Instr.lookup 167 (eS b) (bh t) true) c fun b c d=>ah c (Q (bk b 0) d) (ao a fun b=>aO d (b.add 1) fun _ b _=>ao a fun c=>aM d c fun c=>ah (decide ((b:Int)≥c)) (Q (bk 0 60) d) (ao a fun c=>aO d (c.add 1) fun c e f=>bE (Builtin.append_ #[73,73] 73 #[ax c e f,ax (some (bf d.size)) 1 1]) (bg d #[bh t] 9) fun c d e f=>ao a fun g=>bi f (g.add 1) (ax c d e) fun c=>ao a fun a=>gE c (a.add 2) fun a=>je (Instr.mapUpdate 167 (eS a) (bh t) (ac (b:Int))) c fun a=>Q (bk (b:Int) 0) a)))))):ag PP 95 #[.pointer a,.string t] Q H :=
 okF Tryz.func95 rfl h
theorem zA (h:ah (aZ i 0) (Q (bk 0 1) H) (ah (decide (i≥4096)) (Q (bk 0 1) H) (Q (bk (xT .i64 (jw .i64 i 2) 2) 0) H))):ag PP 96 #[ac i] Q H :=
 okF Tryz.func96 rfl h
theorem Ar (h:aA 165 #[ac i] H fun a _ b=>Q (ac a) b):ag PP 97 #[ac i] Q H :=
 okF Tryz.func97 rfl h
theorem vG (h:ah (decide ((t.size:Int)≥1)) (Q (bx (decide ((t.size:Int)<=96))) H) (Q (bx false) H)):ag PP 103 #[.string t] Q H :=
 okF Tryz.func103 rfl h
theorem wR (h:ce [ac 0] H fun b c d e f=>ao a fun g=>aO e (g.add 1) fun _ g _=>ah (aZ f (g:Int)) (ao a fun a=>aO e (a.add 1) fun a g _=>bm f g a fun a=>fE e (bl a f 1) fun a=>ah (iV a t) (Q (ac f) e) (bt b c [ac (aI (f+1))] e d e)) (Q (ac (-1)) e)):ag PP 104 #[.pointer a,.string t] Q H :=
 okL Tryz.func104 rfl (fun | 2=>some [(5,3)] | _=>none) h
theorem wX {g1:Array Value}{h1:Array Value}(h:ce [ac 0] H fun b c d e f=>ah (aZ f (l:Int)) (bm f l a fun a=>aM e (bl a f 1) fun a=>bK r (g1++#[ac a]++h1) e fun a g=>ah a (Q (ac f) g) (bt b c [ac (aI (f+1))] g d e)) (Q (ac (-1)) e)):ag PP 110 #[.slice a l o,.func (.func r) g1 h1] Q H :=
 okL Tryz.func110 rfl (fun | 2=>some [(8,3)] | _=>none) h
theorem xZ (h:ah (decide (i≥(-1073741824))) (Q (bx (decide (i<=1073741823))) H) (Q (bx false) H)):ag PP 111 #[ac i] Q H :=
 okF Tryz.func111 rfl h
theorem we (h:aH 173 #[ax a l o,bh t] H fun a b=>Q (bx (decide (a≥0))) b):ag PP 115 #[.slice a l o,.string t] Q H :=
 okF Tryz.func115 rfl h
theorem wk (h:bK 164 #[am a] H fun b c=>ah b (Q (ac 0) c) (ao a fun a=>aO c (a.add 1) fun _ a _=>Q (ac (a:Int)) c)):ag PP 118 #[.pointer a] Q H :=
 okF Tryz.func118 rfl h
theorem xq (h:bK 164 #[am a] H fun b c=>ah b (Q (ac 2) c) (ah (aZ i 0) (Q (ac 1) c) (ao a fun b=>aO c (b.add 1) fun _ b _=>ah (bA i (b:Int)) (Q (ac 1) c) (ao a fun b=>aO c (b.add 1) fun _ b _=>ce [ac 0] c fun c d e f g=>ah (aZ g (aI ((b:Int)-i))) (ao a fun b=>gE f (b.add 2) fun b=>ao a fun a=>aO f (a.add 1) fun a j _=>bm (aI (i+g)) j a fun a=>fE f (bl a (aI (i+g)) 1) fun a=>mJ (Builtin.delete_ #[167,9] 0 #[eS b,bh a]) (fun _ a=>True∧bt c d [ac (aI (g+1))] a e f) f) (ao a fun b=>aO f (b.add 1) fun b _ c=>((0:Int)<=i∧i<=(c:Int))∧ao a fun a=>bi f (a.add 1) (ax b (Int.toNat i) c) fun a=>Q (ac 0) a))))):ag PP 124 #[.pointer a,ac i] Q H :=
 okL Tryz.func124 rfl (fun | 6=>some [(28,3)] | _=>none) h
theorem ym (h:az (bx false) fun a=>az (t.size:Int) fun b=>ah (aZ b 1) (Q a H) (ah (bA b 32) (Q a H) (mK 0 t fun c=>bK 180 #[.int .u8 (c.toNat:Int)] H fun c d=>ah (!c) (Q a d) (ce [ac 0] d fun c d e f g=>ah (aZ g b) (mK g t fun b=>bK 180 #[.int .u8 (b.toNat:Int)] f fun b i=>ah (!b) (mK g t fun b=>ah (aZ (b.toNat:Int) 48) (Q a i) (mK g t fun b=>ah (bA (b.toNat:Int) 57) (Q a i) (bt c d [ac (aI (g+1))] i e f))) (bt c d [ac (aI (g+1))] i e f)) (Q (bx true) f))))):ag PP 126 #[.string t] Q H :=
 okL Tryz.func126 rfl (fun | 4=>some [(3,3)] | _=>none) h
theorem wy (h:ah (ch a) (Q (ac 0) H) (ao a fun a=>aO H (a.add 1) fun _ a _=>Q (ac (a:Int)) H)):ag PP 129 #[.pointer a] Q H :=
 okF Tryz.func129 rfl h
theorem wC (h:ah (ch a) (Q (ac 2) H) (ah (aZ i 0) (Q (ac 1) H) (ao a fun b=>aO H (b.add 1) fun _ b _=>ah (bA i (b:Int)) (Q (ac 1) H) (dq [ax none 0 0,ac 0] H fun b c d e f g j k=>ah (aZ k i) (ao a fun a=>aO e (a.add 1) fun a i _=>bm k i a fun a=>fE e (bl a k 1) fun a=>bE (Builtin.append_ #[73,73] 73 #[ax f g j,ax (some (bf e.size)) 1 1]) (bg e #[bh a] 9) fun a f g i=>bt b c [ax a f g,ac (aI (k+1))] i d e) (ao a fun a=>bi e (a.add 1) (ax f g j) fun a=>Q (ac 0) a))))):ag PP 134 #[.pointer a,ac i] Q H :=
 okL Tryz.func134 rfl (fun | 7=>some [(5,73),(6,3)] | _=>none) h
theorem vD (h:aH 50 #[ac i] H fun a b=>ah (a != 3) (Q (bk 0 10) b) (Q (bk (kg .i64 i 2) 0) b)):ag PP 147 #[ac i] Q H :=
 okF Tryz.func147 rfl h
theorem wT (h:ah (ch a) (Q (bx true) H) (ao a fun a=>gE H (a.add 2) fun a=>Q (bx (ch a)) H)):ag PP 164 #[.pointer a] Q H :=
 okF Tryz.func164 rfl h
theorem xY (h:bK 111 #[ac i] H fun a b=>ah (!a) (Q (bk 0 1) b) (Q (bk (xT .i64 (jw .i64 i 1) 1) 0) b)):ag PP 165 #[ac i] Q H :=
 okF Tryz.func165 rfl h
theorem vU (h:ce [ac 0] H fun b c d e f=>ah (aZ f (l:Int)) (bm f l a fun a=>fE e (bl a f 1) fun a=>ah (iV t a) (Q (ac f) e) (bt b c [ac (aI (f+1))] e d e)) (Q (ac (-1)) e)):ag PP 173 #[.slice a l o,.string t] Q H :=
 okL Tryz.func173 rfl (fun | 2=>some [(8,3)] | _=>none) h
theorem xd (h:aH 50 #[ac i] H fun a b=>ah (a != 2) (Q (bk 0 10) b) (Q (bk (kg .i64 i 2) 0) b)):ag PP 175 #[ac i] Q H :=
 okF Tryz.func175 rfl h
theorem xj (h:bK 164 #[am a] H fun b c=>az (bh (⟨#[]⟩:ByteArray)) fun d=>ah b (Q (bn #[d,ac 2]) c) (az (bn #[d,ac 61]) fun b=>ah (aZ i 0) (Q b c) (ao a fun d=>aO c (d.add 1) fun _ d _=>ah (decide (i≥(d:Int))) (Q b c) (ao a fun a=>aO c (a.add 1) fun a b _=>bm i b a fun a=>fE c (bl a i 1) fun a=>Q (bn #[bh a,ac 0]) c)))):ag PP 176 #[.pointer a,ac i] Q H :=
 okF Tryz.func176 rfl h
theorem yg (h:az (l:Int) fun b=>(((0:Int)<=b∧b<=(o:Int))∧(0:Int)<=b∧b<=b)∧az (Int.toNat b) fun b=>Q (ax a b b) H):ag PP 177 #[.slice a l o] Q H :=
 okF Tryz.func177 rfl h
theorem wu (h:ah (ch a) (Q (ax none 0 0) H) (bE (Builtin.append_ #[44,44] 44 #[ax (some (bf H.size)) 0 0,ax a l o]) (bg H #[] 31) fun a b c d=>Q (ax a b c) d)):ag PP 178 #[.slice a l o] Q H :=
 okF Tryz.func178 rfl h
theorem wz (h:az (bx (decide (i<=90))) fun a=>az (decide (i≥65)) fun b=>ah (decide (i≥97)) (ah (decide (i<=122)) (Q (bx true) H) (ah b (Q a H) (Q (bx false) H))) (ah b (Q a H) (Q (bx false) H))):ag PP 180 #[.int .u8 i] Q H :=
 okF Tryz.func180 rfl h
theorem xE (h:az (bh (⟨#[]⟩:ByteArray)) fun b=>ah (ch a) (Q (bn #[b,ac 2]) H) (az (bn #[b,ac 61]) fun b=>ah (aZ i 0) (Q b H) (ao a fun c=>aO H (c.add 1) fun _ c _=>ah (decide (i≥(c:Int))) (Q b H) (ao a fun a=>aO H (a.add 1) fun a b _=>bm i b a fun a=>fE H (bl a i 1) fun a=>Q (bn #[bh a,ac 0]) H)))):ag PP 182 #[.pointer a,ac i] Q H :=
 okF Tryz.func182 rfl h
theorem vy (h:aH 51 #[ac i] H fun a b=>ah (a != 2) (Q (bk 0 10) b) (Q (bk (aI (Int.tdiv (aI (i-2)) 4)) 0) b)):ag PP 191 #[ac i] Q H :=
 okF Tryz.func191 rfl h
theorem wO (h:aH 51 #[ac i] H fun a b=>ah (a != 3) (Q (bk 0 10) b) (Q (bk (aI (Int.tdiv i 4)) 0) b)):ag PP 201 #[ac i] Q H :=
 okF Tryz.func201 rfl h
end
end Go.Proofs.YtcfmnlapccgllaaGreatDoor
namespace Kw
open Go
theorem af {p:Prop} [Decidable p] {X Y:Prop}:cond (decide p) X Y↔if p then X else Y:=by
 by_cases h:p <;> simp [h]
theorem pN {b:Bool}{X Y:Prop}:cond b X Y↔(b=true->X)∧(b=false->Y):=by cases b <;> simp
theorem fQ {b:Bool}{X Y:Prop} (h:b=true) (hx:X):cond b X Y:=by subst h;exact hx
theorem ck {b:Bool}{X Y:Prop} (h:b=false) (hy:Y):cond b X Y:=by subst h;exact hy
theorem ba {p:Prop} [Decidable p] {X Y:Prop} (h1:p->X) (h2:¬ p->Y):if p then X else Y:=by
 split
 ·rename_i h;exact h1 h
 ·rename_i h;exact h2 h
theorem ai {n:Int} (h1:-9223372036854775808<=n) (h2:n<=9223372036854775807):IntKind.wrap .i64 n=n:=by
 simp only [IntKind.wrap,IntKind.bits,IntKind.signed];simp;omega
theorem tv {a b:ByteArray}:iV a b=true↔a=b:=by
 unfold iV;rw [beq_iff_eq,ByteArray.toList_eq,ByteArray.toList_eq];constructor
 ·intro h;obtain ⟨⟨a⟩⟩:=a;obtain ⟨⟨b⟩⟩:=b;simp only at h;rw [h]
 ·intro h;rw [h]
theorem fm (a b:ByteArray):iV a b=decide (a=b):=by
 rw [Sk,tv];simp
abbrev aB:=List Nat
def Fr (F:aB) (H H':ae):Prop:=H.size<=H'.size∧∀ b,b<H.size->b∉F->H'[b]?=H[b]?
theorem Fr.refl (F:aB) (H:ae):Fr F H H:=⟨Rw _,fun _ _ _=>rfl⟩
theorem Fr.trans {F:aB}{H H' H'':ae} (h:Fr F H H') (h':Fr F H' H''):Fr F H H'' :=
 ⟨Rr h.1 h'.1,fun b hb hn=>(h'.2 b (RC hb h.1) hn).trans (h.2 b hb hn)⟩
theorem Fr.mono {F F':aB}{H H':ae} (h:Fr F H H') (hs:∀ b∈F,b∈F'):Fr F' H H':=⟨h.1,fun b hb hn=>h.2 b hb fun hm=>hn (hs b hm)⟩
theorem Fr.of_nil {F:aB}{H H':ae} (h:Fr [] H H'):Fr F H H':=h.mono (by simp)
theorem Fr.push (F:aB) (H:ae) (o:Obj):Fr F H (H.push o):=⟨by simp,fun b hb _=>by rw [SX];simp;omega⟩
def Up (F:aB) (H:ae) (F':aB) (H':ae):Prop:=Fr F H H'∧∀ b∈F',b∈F∨H.size<=b
theorem Up.refl (F:aB) (H:ae):Up F H F H:=⟨Fr.refl F H,fun _ h=>.inl h⟩
theorem Up.trans {F F' F'':aB}{H H' H'':ae} (h:Up F H F' H') (h':Up F' H' F'' H''):Up F H F'' H'':=by
 refine ⟨⟨Rr h.1.1 h'.1.1,fun b hb hn=>?_⟩,fun b hb=>?_⟩
 ·rw [h'.1.2 b (RC hb h.1.1) fun hm=>(h.2 b hm).elim hn (fun DG=>absurd hb (by omega)),h.1.2 b hb hn]
 ·rcases h'.2 b hb with h1 | h1
  ·exact h.2 b h1
  ·exact .inr (Rr h.1.1 h1)
def bW (H:ae) (b:Nat) (c:Array Value):Prop:=∃ t,H[b]?=some (.cells c t (0,0))
theorem bW.lt {H:ae}{b:Nat}{c:Array Value} (h:bW H b c):b<H.size:=by
 obtain ⟨t,h⟩:=h;exact (Rt.1 h).1
theorem bW.cell {H:ae}{b:Nat}{c:Array Value} (h:bW H b c) (o:Nat):aj H ⟨b,o,none⟩=c[o]?:=by
 obtain ⟨t,h⟩:=h;simp [aj,h]
theorem bW.frozen {H:ae}{b:Nat}{c:Array Value} (h:bW H b c) (o:Nat):ld H ⟨b,o,none⟩=false:=by
 obtain ⟨t,h⟩:=h;simp [ld,h]
theorem bW.wr {H:ae}{b:Nat}{c:Array Value} (h:bW H b c){o:Nat} (ho:o<c.size):Wr H ⟨b,o,none⟩ :=
 ⟨⟨c[o],by rw [h.cell];simp [ho]⟩,h.frozen o⟩
theorem bW.uniq {H:ae}{b:Nat}{c c':Array Value} (h:bW H b c) (h':bW H b c'):c=c':=by
 obtain ⟨t,h⟩:=h;obtain ⟨t',h'⟩:=h';rw [h] at h';cases h';rfl
theorem bW.of_eq {H H':ae}{b:Nat}{c:Array Value} (h:bW H b c) (he:H'[b]?=H[b]?):bW H' b c:=by
 obtain ⟨t,h⟩:=h;exact ⟨t,he.trans h⟩
theorem bW.fr {F:aB}{H H':ae}{b:Nat}{c:Array Value} (h:bW H b c) (hf:Fr F H H') (hb:b∉F):bW H' b c:=h.of_eq (hf.2 b h.lt hb)
theorem bW.push {H:ae}{b:Nat}{c:Array Value} (h:bW H b c) (o:Obj):bW (H.push o) b c:=h.fr (Fr.push [] H o) (by simp)
theorem bW.new (H:ae) (c:Array Value) (t:TypeId):bW (H.push (.cells c t)) H.size c:=⟨t,by simp⟩
theorem d6 (H:ae) (a:Addr) (v:Value):(bc H a v).size=H.size:=by simp [bc]
theorem cV {H:ae}{a:Addr}{v:Value}{b:Nat} (h:b≠a.block):(bc H a v)[b]?=H[b]?:=by
 simp [bc,R1,S4 h]
theorem bW.set {H:ae}{b:Nat}{c:Array Value} (h:bW H b c) (o:Nat) (v:Value):bW (bc H ⟨b,o,none⟩ v) b (c.setIfInBounds o v):=by
 obtain ⟨t,h⟩:=h;exact ⟨t,by simp [bc,R1,h]⟩
theorem bW.set_ne {H:ae}{b:Nat}{c:Array Value} (h:bW H b c){a:Addr} (hb:b≠a.block) (v:Value):bW (bc H a v) b c:=h.of_eq (cV hb)
theorem Fr.set {F:aB}{H:ae}{a:Addr}{v:Value} (h:a.block∈F):Fr F H (bc H a v) :=
 ⟨by rw [d6];exact Rw _,fun b _ hn=>cV fun e=>hn (e ▸ h)⟩
@[simp] theorem ak (b o n:Nat):(⟨b,o,none⟩:Addr).add n=⟨b,o+n,none⟩:=by
 unfold Addr.add;split <;> simp_all
theorem uY {P:Program}{α β:Type} (m:Sem α) (f:α->Sem β):∀ {Q:β->ae->Prop}{H:ae},cc P m (fun a H'=>cc P (f a) Q H') H->cc P (m.bind f) Q H:=by
 induction m with
 | pure a=>exact fun h=>h
 | load m a k ih=>exact fun ⟨v,hv,h⟩=>⟨v,hv,ih v h⟩
 | store m a v k ih=>exact fun ⟨h1,h2,h⟩=>⟨h1,h2,ih h⟩
 | new o k ih=>exact fun {Q H} h=>ih H.size h
 | shape r k ih=>exact fun h=>ih _ h
 | freeze a n k ih=>exact fun h=>ih h
 | frozen a k ih=>exact fun h=>ih _ h
 | getObj r k ih=>exact fun ⟨o,h1,h2,h⟩=>⟨o,h1,h2,ih o h⟩
 | setObj r o k ih=>exact fun ⟨h1,h⟩=>⟨h1,ih h⟩
 | choose q k ih =>
  intro Q H h;simp only [Sem.bind,cc] at h ⊢;split at h
  ·rename_i hf;rw [Rj hf];exact ih 0 h
  ·rename_i hf;rw [Re hf];exact fun t=>ih _ (h t)
 | sys c k ih=>exact fun h=>h.elim
 | program k ih=>exact fun h=>ih P h
 | mark m k ih=>exact fun h=>ih h
 | halt h=>exact fun h=>h.elim
theorem ay {P:Program}{α β:Type}{m:Sem α}{f:α->Sem β}{Q:β->ae->Prop}{H:ae} (h:cc P m (fun a H'=>cc P (f a) Q H') H):cc P (m >>= f) Q H:=uY m f h
theorem bu {P:Program}{t:TypeId}{d:TypeDesc} (hu:P.underlying t=some d){Q:TypeDesc->ae->Prop}{H:ae} (h:Q d H):cc P (underlying t) Q H:=by
 show cc P (match P.underlying t with | some d => pure d | none => stuck "no such type") Q H
 rw [hu];exact h
theorem cN {P:Program}{t:TypeId}{d:TypeInfo} (hu:P.info? t=some d){Q:TypeInfo->ae->Prop}{H:ae} (h:Q d H):cc P (typeInfo t) Q H:=by
 show cc P (match P.info? t with | some d => pure d | none => stuck "no such type") Q H
 rw [hu];exact h
theorem sL {P:Program}{src dst e:TypeId}{s:ByteArray}{Q:Value->ae->Prop}{H:ae} (h1:P.underlying src=some .string) (h2:P.underlying dst=some (.slice e)) (h3:P.underlying e=some (.int .u8))
  (h:∀ cap H',Fr [] H H'->(∀ i,i<s.size->aj H' ⟨H.size,i,none⟩=some (.int .u8 (((s[i]?.getD 0).toNat:Nat):Int)))->Q (.slice (some ⟨H.size,0,none⟩) s.size cap) H'):cc P (convert src dst (.string s)) Q H:=by
 refine ay (bu h1 (ay (bu h2 (ay (bu h3 ?_)))));show cc P (Conv.stringToBytes e s) Q H;unfold Conv.stringToBytes;simp only [cc,choose,newRow,newObj,bind,Sem.bind,Question.forced,RY,if_false,pure];intro t;generalize C1:((s.data.map fun b=>Value.int .u8 b.toNat)++Array.replicate (Question.cut (.appendCap s.size 0 e) t-s.size) (.int .u8 0))=cs;have Dn:iq (H.push (.cells cs e)) H.size=some (e,cs.size):=by simp [iq]
 simp only [markStringish,bind,Sem.bind,cc,shape,Dn,freeze,pure];refine h _ _ ?_ ?_
 ·refine ⟨by simp [dJ],fun b hb _=>?_⟩;simp only [dJ,Nat.succ_ne_self,if_false,R1];rw [Re (by omega),SX,Re (by omega)]
 ·intro i hi;have hc:cs[i]?=some (.int .u8 (((s[i]?.getD 0).toNat:Nat):Int)):=by
   rw [←C1,Sy (by simpa using hi)];simp [hi];rfl
  have hb:(dJ (H.push (.cells cs e)) ⟨H.size,cs.size,none⟩ 1)[H.size]?=some (.cells cs e (cs.size,cs.size+1)):=by
   simp only [dJ,Nat.succ_ne_self,if_false,R1,S3,if_true,SM,beq_self_eq_true]
  have er:aj (dJ (H.push (.cells cs e)) ⟨H.size,cs.size,none⟩ 1) ⟨H.size,i,none⟩=cs[i]?:=by
   unfold aj;simp only [hb];rfl
  rw [←hc];exact er
def bT (w:Int):Int :=
 if w % 2=1∧-2147483647<=w∧w<=2147483647 then 1
 else if w % 4=2∧0<=w∧w<16384 then 2
 else if w % 4=0∧0<w∧w<=262144 then 3
 else 0
def d8 (w:Int):Prop:=bT w≠0
instance (w:Int):Decidable (d8 w):=inferInstanceAs (Decidable (bT w≠0))
def qW (n:Int):Prop:=-9223372036854775808<=n∧n<=9223372036854775807
theorem fV (x:Int):((BitVec.ofInt 64 x).toNat:Int)=x % 18446744073709551616:=by
 rw [BitVec.toNat_ofInt]
 have:(0:Int)<=x % ((2 ^ 64:Nat):Int):=Int.emod_nonneg _ (by decide);omega
theorem oB {n:Int} (h0:0<=n) (h1:n<=9223372036854775807):IntKind.wrap .i64 n=n:=ai (by omega) h1
theorem km (x:Int) (k m:Nat) (hm:m=2 ^ k-1) (hk:k<=62):qs .i64 x (m:Int)=x % ((2 ^ k:Nat):Int):=by
 have p6:0<2 ^ k:=Nat.two_pow_pos k;have CI:2 ^ k<=2 ^ 62:=Nat.pow_le_pow_right (by decide) hk;have Pg:(2:Nat) ^ 62=4611686018427387904:=by decide
 have e1:(BitVec.ofInt 64 x &&& BitVec.ofInt 64 (m:Int)).toNat=(BitVec.ofInt 64 x).toNat % 2 ^ k:=by
  rw [BitVec.toNat_and]
  have:(BitVec.ofInt 64 (m:Int)).toNat=2 ^ k-1:=by
   have:=fV (m:Int);omega
  rw [this,Nat.and_two_pow_sub_one_eq_mod]
 have e2:(((BitVec.ofInt 64 x).toNat % 2 ^ k:Nat):Int)=x % ((2 ^ k:Nat):Int):=by
  have h1:=fV x
  push_cast
  rw [h1];have hd:((2:Int) ^ k) ∣ 18446744073709551616:=by
   have:(18446744073709551616:Int)=2 ^ k*2 ^ (64-k):=by
    rw [←Int.pow_add,show k+(64-k)=64 by omega];decide
   exact ⟨_,this⟩
  exact Int.emod_emod_of_dvd x hd
 unfold qs;show IntKind.wrap .i64 (((BitVec.ofInt 64 x &&& BitVec.ofInt 64 (m:Int)).toNat:Nat):Int)=_;rw [e1,e2];have h3:0<=x % ((2 ^ k:Nat):Int):=Int.emod_nonneg _ (by omega);have h4:x % ((2 ^ k:Nat):Int)<((2 ^ k:Nat):Int):=Int.emod_lt_of_pos _ (by omega);exact oB h3 (by omega)
theorem Bz (x:Int):qs .i64 x 3=x % 4:=km x 2 3 rfl (by decide)
theorem yH (x:Int):qs .i64 x 1=x % 2:=km x 1 1 rfl (by decide)
theorem xo (x:Int):qs .i64 x 255=x % 256:=km x 8 255 rfl (by decide)
theorem oP (x:Int) (k:Nat) (hk:k<=64):kg .i64 x (k:Int)=x / ((2 ^ k:Nat):Int):=by
 unfold kg
 have:min (Int.toNat (k:Int)) (IntKind.bits .i64)=k:=by simp only [Ro,IntKind.bits];omega
 rw [this,Int.fdiv_eq_ediv_of_nonneg _ (Int.pow_nonneg (by decide))]
 push_cast
 rfl
theorem Ap (x:Int):kg .i64 x 1=x / 2:=oP x 1 (by decide)
theorem AY (x:Int):kg .i64 x 2=x / 4:=oP x 2 (by decide)
theorem kU (x:Int) (k:Nat) (hk:k<=64) (h:qW (x*((2 ^ k:Nat):Int))):jw .i64 x (k:Int)=x*((2 ^ k:Nat):Int):=by
 unfold jw
 have:min (Int.toNat (k:Int)) (IntKind.bits .i64)=k:=by simp only [Ro,IntKind.bits];omega
 rw [this];have e:x*2 ^ k=x*((2 ^ k:Nat):Int):=by push_cast;rfl
 rw [e];exact ai h.1 h.2
theorem ln (x:Int) (k m:Nat) (hk:k<=62) (hm:m<2 ^ k) (h:qW x) (hx:x % ((2 ^ k:Nat):Int)=0):xT .i64 x (m:Int)=x+m:=by
 have CI:2 ^ k<=2 ^ 62:=Nat.pow_le_pow_right (by decide) hk;have Pg:(2:Nat) ^ 62=4611686018427387904:=by decide
 have p6:0<2 ^ k:=Nat.two_pow_pos k;unfold xT;show IntKind.wrap .i64 (((BitVec.ofInt 64 x ||| BitVec.ofInt 64 (m:Int)).toNat:Nat):Int)=_;rw [BitVec.toNat_or];have Ph:(BitVec.ofInt 64 (m:Int)).toNat=m:=by have:=fV (m:Int);omega
 have EG:=fV x;obtain ⟨q,hq⟩:∃ q,(BitVec.ofInt 64 x).toNat=2 ^ k*q:=by
  have hd:((2 ^ k:Nat):Int) ∣ 18446744073709551616:=by
   have:(18446744073709551616:Int)=((2 ^ k:Nat):Int)*((2 ^ (64-k):Nat):Int):=by
    rw [←Int.natCast_mul,←Nat.pow_add,show k+(64-k)=64 by omega];decide
   exact ⟨_,this⟩
  have h0:(((BitVec.ofInt 64 x).toNat:Int)) % ((2 ^ k:Nat):Int)=0:=by
   rw [EG,Int.emod_emod_of_dvd x hd,hx]
  exact Nat.dvd_of_mod_eq_zero (by exact_mod_cast h0)
 rw [Ph,hq,←Nat.two_pow_add_eq_or_of_lt hm,←hq]
 push_cast
 rw [EG];simp only [IntKind.wrap,IntKind.bits,IntKind.signed];obtain ⟨h1,h2⟩:=h;simp;have s7:x+(m:Int)<9223372036854775808:=by
  obtain ⟨r,hr⟩:=Int.dvd_of_emod_eq_zero hx;have h9:(9223372036854775808:Int)=((2 ^ k:Nat):Int)*((2 ^ (63-k):Nat):Int):=by
   rw [←Int.natCast_mul,←Nat.pow_add,show k+(63-k)=63 by omega];decide
  have N9:r<((2 ^ (63-k):Nat):Int):=by
   by_cases h:r<((2 ^ (63-k):Nat):Int)
   ·exact h
   ·have h:((2 ^ (63-k):Nat):Int)<=r:=by omega
    have:=Ty h (by omega:(0:Int)<=((2 ^ k:Nat):Int));omega
  have:((2 ^ k:Nat):Int)*(r+1)<=((2 ^ k:Nat):Int)*((2 ^ (63-k):Nat):Int):=Ty (by omega) (by omega);rw [Int.mul_add,Int.mul_one] at this;omega
 omega
theorem Cd (n:Int) (h:qW (2*n)):xT .i64 (2*n) 1=2*n+1:=ln (2*n) 1 1 (by decide) (by decide) h (by simp)
theorem B9 (n:Int) (h:qW (4*n)):xT .i64 (4*n) 2=4*n+2:=ln (4*n) 2 2 (by decide) (by decide) h (by simp)
theorem k8 (x k:Int) (hk:0<k):Int.tmod x k=if 0<=x then x % k else -((-x) % k):=by
 split
 ·rename_i h;exact Sz h
 ·rename_i h
  have:Int.tmod x k=-Int.tmod (-x) k:=by rw [Int.neg_tmod,Int.neg_neg]
  rw [this,Sz (by omega)]
theorem iL (x k:Int):Int.tdiv x k=if 0<=x then x / k else -((-x) / k):=by
 split
 ·rename_i h;exact SQ h
 ·rename_i h
  have:Int.tdiv x k=-Int.tdiv (-x) k:=by rw [Int.neg_tdiv,Int.neg_neg]
  rw [this,SQ (by omega)]
theorem yG (w:Int):(Int.tmod w 2 != 0)=decide (w % 2=1):=by
 rw [k8 _ _ (by decide),Sk,bne_iff_ne,decide_eq_true_eq];split <;> omega
theorem xX (w:Int):(Int.tmod w 4 == 2)=decide (w % 4=2∧0<=w):=by
 rw [k8 _ _ (by decide),Sk,beq_iff_eq,decide_eq_true_eq];split <;> omega
theorem oJ (w:Int):(Int.tmod w 4 == 0)=decide (w % 4=0):=by
 rw [k8 _ _ (by decide),Sk,beq_iff_eq,decide_eq_true_eq];split <;> omega
theorem bq (a b:Int):(a == b)=decide (a=b):=by rw [Sk];simp
theorem bw (a b:Int):(a != b)=decide (a≠b):=by rw [Sk];simp
theorem bN (w:Int):(bT w=1∧w % 2=1∧-2147483647<=w∧w<=2147483647)∨(bT w=2∧w % 4=2∧0<=w∧w<16384)∨(bT w=3∧w % 4=0∧0<w∧w<=262144) ∨
  (bT w=0∧¬ (w % 2=1∧-2147483647<=w∧w<=2147483647)∧¬ (w % 4=2∧0<=w∧w<16384)∧¬ (w % 4=0∧0<w∧w<=262144)):=by
 unfold bT;split
 ·rename_i h;exact .inl ⟨rfl,h⟩
 ·split
  ·rename_i h;exact .inr (.inl ⟨rfl,h⟩)
  ·split
   ·rename_i h;exact .inr (.inr (.inl ⟨rfl,h⟩))
   ·rename_i h1 h2 h3;exact .inr (.inr (.inr ⟨rfl,h1,h2,h3⟩))
end Kw
namespace Go.Proofs.YtcfmnlapccgllaaGreatDoor
open Kw
def dG (H:ae):Prop:=aj H ⟨aP,0,none⟩=some (ac 3)∧aj H ⟨aP,1,none⟩=some (ac 1)∧aj H ⟨aP,2,none⟩=some (ac 2)∧aj H ⟨aP,3,none⟩=some (ac 1)
theorem dG.fr {F:aB}{H H':ae} (h:dG H) (hf:Fr F H H') (hn:aP∉F):dG H':=by
 have hb:aP<H.size:=by
  have h0:=h.1;unfold aj at h0;rcases Sf aP H.size with h1 | h1
  ·exact h1
  ·simp only [Sd h1] at h0;cases h0
 have he:=hf.2 _ hb hn;unfold dG aj at *;simp only [he];exact h
theorem zw {n:Int}{Q:QT}{H:ae} (h:Q (.bool (decide (-1073741824<=n∧n<=1073741823))) H):ag PP 111 #[ac n] Q H:=by
 apply xZ;dsimp only [bx,ah];simp only [af];split
 ·rename_i h1;have h1:-1073741824<=n:=h1;simpa [h1] using h
 ·rename_i h1;have h1:¬ -1073741824<=n:=h1;simpa [h1] using h
theorem iy {w:Int}{Q:QT}{H:ae} (hk:dG H) (h:Q (ac (bT w)) H):ag PP 50 #[ac w] Q H:=by
 apply AM;dsimp only [ci,bK,ah,bA,aZ,aM,ac,az];have fin:∀ c,bT w=c->Q (ac c) H:=fun c hc=>hc ▸ h;simp only [Bz,Ap,AY,ak,Rm,Rn,bq,af];refine ⟨⟨by omega,by omega⟩,?_⟩;obtain ⟨k0,k1,k2,k3⟩:=hk;have hm:w % 4=0∨w % 4=1∨w % 4=2∨w % 4=3:=by omega
 have kc:=bN w;rcases hm with hm | hm | hm | hm <;> rw [hm]
 ·refine ⟨3,k0,?_⟩;simp only [show ¬ (3:Int)=1 by decide,show ¬ (3:Int)=2 by decide,if_false,if_true]
  repeat' split
  all_goals exact fin _ (by omega)
 ·refine ⟨1,k1,?_⟩;simp only [if_true,show ¬ (1:Int)=3 by decide,show ¬ (1:Int)=2 by decide,if_false];refine zw ⟨_,rfl,?_⟩;simp only [pN];refine ⟨fun h1=>fin _ ?_,fun h1=>fin _ ?_⟩
  ·have:¬ (-1073741824<=w / 2∧w / 2<=1073741823):=by rw [Bool.not_eq_true'] at h1;exact of_decide_eq_false h1
   omega
  ·have:(-1073741824<=w / 2∧w / 2<=1073741823):=by simpa using h1
   omega
 ·refine ⟨2,k2,?_⟩;simp only [show ¬ (2:Int)=1 by decide,show ¬ (2:Int)=3 by decide,if_false,if_true]
  repeat' split
  all_goals exact fin _ (by omega)
 ·refine ⟨1,k3,?_⟩;simp only [if_true,show ¬ (1:Int)=3 by decide,show ¬ (1:Int)=2 by decide,if_false];refine zw ⟨_,rfl,?_⟩;simp only [pN];refine ⟨fun h1=>fin _ ?_,fun h1=>fin _ ?_⟩
  ·have:¬ (-1073741824<=w / 2∧w / 2<=1073741823):=by rw [Bool.not_eq_true'] at h1;exact of_decide_eq_false h1
   omega
  ·have:(-1073741824<=w / 2∧w / 2<=1073741823):=by simpa using h1
   omega
theorem fg {w:Int}{Q:QT}{H:ae} (h:Q (ac (bT w)) H):ag PP 51 #[ac w] Q H:=by
 apply zd;dsimp only [ah,bA,aZ,ac,sx,az];have fin:∀ c,bT w=c->Q (ac c) H:=fun c hc=>hc ▸ h;simp only [yG,xX,oJ,af];have kc:=bN w;refine ⟨fun vs H'=>vs=[]∧H'=H∧bT w≠1,?_,?_⟩
 ·repeat' split
  all_goals first
   | exact fin _ (by omega)
   | exact ⟨rfl,rfl,by omega⟩
 ·rintro vs H' ⟨rfl,rfl,hn⟩ _;refine ⟨rfl,?_⟩
  repeat' split
  all_goals exact fin _ (by omega)
theorem BM {n:Int}{Q:QT}{H:ae} (hn:-1073741824<=n∧n<=1073741823) (h:Q (.tuple #[ac (2*n+1),ac 0]) H):ag PP 165 #[ac n] Q H:=by
 apply xY;dsimp only [bk,bK,ah,ac];refine zw ⟨_,rfl,?_⟩;have e:jw .i64 n 1=2*n:=by
  have:=kU n 1 (by decide) ⟨by simp;omega,by simp;omega⟩;simpa [TM] using this
 rw [e,Cd n ⟨by omega,by omega⟩];simpa [hn] using h
theorem yM {n:Int}{Q:QT}{H:ae} (hn:0<=n∧n<4096) (h:Q (.tuple #[ac (4*n+2),ac 0]) H):ag PP 96 #[ac n] Q H:=by
 apply zA;dsimp only [bk,ah,aZ];have e:jw .i64 n 2=4*n:=by
  have:=kU n 2 (by decide) ⟨by simp;omega,by simp;omega⟩;simpa [TM] using this
 rw [e,B9 n ⟨by omega,by omega⟩];simp only [af];rw [Re (by omega),Re (by omega)];exact h
theorem sn {n:Int}{Q:QT}{H:ae} (hn:1<=n∧n<=65536) (h:Q (.tuple #[ac (4*n),ac 0]) H):ag PP 45 #[ac n] Q H:=by
 apply ug;dsimp only [bk,ah,bA,aZ];have e:jw .i64 n 2=4*n:=by
  have:=kU n 2 (by decide) ⟨by simp;omega,by simp;omega⟩;simpa [TM] using this
 rw [e];simp only [af];rw [Re (by omega),Re (by omega)];exact h
theorem yT {n:Int}{Q:QT}{H:ae} (hn:n<1∨65536<n) (h:Q (.tuple #[ac 0,ac 1]) H):ag PP 45 #[ac n] Q H:=by
 apply ug;dsimp only [bk,ah,bA,aZ];simp only [af];split
 ·exact h
 ·rw [Rj (by omega)];exact h
def qA (k:Int) (f:Int->Int) (w:Int):Value:=if bT w=k then .tuple #[ac (f w),ac 0] else .tuple #[ac 0,ac 10]
theorem rY {w:Int}{Q:QT}{H:ae} (hk:dG H) (h:Q (qA 2 (· / 4) w) H):ag PP 175 #[ac w] Q H:=by
 apply xd;dsimp only [bk,aH,ah,ac];refine iy hk ⟨_,rfl,?_⟩;simp only [bw,af,AY];unfold qA at h;split
 ·rename_i h1;rw [Re h1] at h;exact h
 ·rename_i h1;rw [Rj (by simpa using h1)] at h;exact h
theorem kI {w:Int}{Q:QT}{H:ae} (hk:dG H) (h:Q (qA 3 (· / 4) w) H):ag PP 147 #[ac w] Q H:=by
 apply vD;dsimp only [bk,aH,ah,ac];refine iy hk ⟨_,rfl,?_⟩;simp only [bw,af,AY];unfold qA at h;split
 ·rename_i h1;rw [Re h1] at h;exact h
 ·rename_i h1;rw [Rj (by simpa using h1)] at h;exact h
theorem uJ {w:Int}{Q:QT}{H:ae} (h:Q (qA 3 (· / 4) w) H):ag PP 201 #[ac w] Q H:=by
 apply wO;dsimp only [bk,aH,ah,ac,aI];refine fg ⟨_,rfl,?_⟩;simp only [bw,af];unfold qA at h;split
 ·rename_i h1;rw [Re h1] at h;exact h
 ·rename_i h1;have h1:bT w=3:=by simpa using h1
  rw [Rj h1] at h;have kc:=bN w;have e:IntKind.wrap .i64 (Int.tdiv w 4)=w / 4:=by
   rw [iL,Rj (by omega)];exact ai (by omega) (by omega)
  rw [e];exact h
theorem dt {n:Int}{Q:QT}{H:ae} (hn:1<=n∧n<=65536) (h:Q (ac (4*n)) H):ag PP 27 #[ac n] Q H:=by
 apply zm;exact sn hn ⟨_,_,rfl,h⟩
theorem nJ {n:Int}{Q:QT}{H:ae} (hn:-1073741824<=n∧n<=1073741823) (h:Q (ac (2*n+1)) H):ag PP 97 #[ac n] Q H:=by
 apply Ar;exact BM hn ⟨_,_,rfl,h⟩
theorem cu {n:Int}{Q:QT}{H:ae} (hn:-1000000000000<=n∧n<=1000000000000) (h:Q (ac (4*n)) H):ag PP 35 #[ac n] Q H:=by
 apply zx;dsimp only [ac,aI];rw [ai (by omega) (by omega)];exact h
theorem pr {n:Int}{Q:QT}{H:ae} (hn:-1000000000000<=n∧n<=1000000000000) (h:Q (ac (4*n+2)) H):ag PP 38 #[ac n] Q H:=by
 apply Ay;dsimp only [ac,aI];rw [ai (n:=4*n) (by omega) (by omega),ai (by omega) (by omega)];exact h
theorem qx {n:Int}{Q:QT}{H:ae} (hn:-1000000000000<=n∧n<=1000000000000) (h:Q (ac (2*n+1)) H):ag PP 39 #[ac n] Q H:=by
 apply y0;dsimp only [ac,aI];rw [ai (n:=2*n) (by omega) (by omega),ai (by omega) (by omega)];exact h
def cZ (w:Int):Int:=if 0<w∧w % 4=0 then w / 4 else 0
theorem cq {w:Int}{Q:QT}{H:ae} (hw:qW w) (h:Q (ac (cZ w)) H):ag PP 15 #[ac w] Q H:=by
 apply zV;dsimp only [ah,bA,ac,aI];have fin:∀ c,cZ w=c->Q (ac c) H:=fun c hc=>hc ▸ h;obtain ⟨h1,h2⟩:=hw;simp only [oJ,af];split
 ·split
  ·refine fin _ ?_;rw [iL,Rj (by omega),ai (by omega) (by omega)];unfold cZ;rw [Rj ⟨by omega,by assumption⟩]
  ·refine fin _ ?_;unfold cZ;rw [Re (by omega)]
 ·refine fin _ ?_;unfold cZ;rw [Re (by omega)]
theorem oA {w:Int}{Q:QT}{H:ae} (h:Q (.bool (decide (d8 w))) H):ag PP 79 #[ac w] Q H:=by
 apply A4;dsimp only [bx,ah,az];have kc:=bN w;have fin:∀ p:Prop,∀ [Decidable p],(bT w≠0↔p)->Q (.bool (decide p)) H:=fun p _ hp=>by
  have:decide (d8 w)=decide p:=by rw [Sk,decide_eq_true_iff,decide_eq_true_iff];exact hp
  rw [←this];exact h
 have fin0:bT w=0->Q (.bool false) H:=fun h0=>fin False (by simp [h0]);simp only [yG,oJ,af]
 repeat' split
 all_goals first
  | exact fin0 (by omega)
  | exact fin _ (by omega)
section
variable {Q:QT}{H:ae}
variable {a b c d A B D P:Option Addr}{i j k m n x y z I J K M N:Int}{l o r s u v L O R S U V:Nat}{t w T W:ByteArray}{e E g:Bool}{q:Option Nat}{p X Y Z:Value}{F G:Addr}
theorem Av (h:eH 145 #[am a] H fun b=>ao a fun c=>aO b (c.add 1) fun c d e=>bE (Builtin.append_ #[144,9] 144 #[ax c d e,bh t]) b fun b c d e=>ao a fun a=>bi e (a.add 1) (ax b c d) fun a=>Q (bn #[ac (t.size:Int),.nilIface]) a):ag PP 81 #[.pointer a,.string t] Q H :=
 okF Tryz.func81 rfl h
theorem AC (h:ao a fun b=>aO H (b.add 1) fun b c d=>ao a fun a=>aO H (a.add 1) fun e f g=>Bj (Builtin.unsafeSliceData_ #[144] 204 #[ax b c d]) H fun b c=>((aj c (a.add 1)=some (ax e f g)∧True)∧True)∧Bk (Builtin.unsafeString_ #[204,3] 9 #[am b,ac (f:Int)]) c fun a b=>True∧Q (bh a) b):ag PP 87 #[.pointer a] Q H :=
 okF Tryz.func87 rfl h
end
end Go.Proofs.YtcfmnlapccgllaaGreatDoor
namespace Go.Proofs
open Go.Shelf
def Tryz.itoa_ren:Go.Shelf.Ren:=⟨fun | 171=>85 | 243=>151 | 246=>189 | 283=>206 | 284=>207 | 285=>208 | 286=>209 | 129=>222 | 317=>221 | 318=>223 | 319=>224 | 320=>225 | 337=>240 | 338=>241 | n=>n,fun | 3=>3 | 9=>9 | 2=>2 | 4=>4 | 171=>242 | 0=>0 | 53=>243 | 37=>144 | 5=>5 | 173=>246 | 212=>255 | 51=>256 | 20=>20 | 213=>257 | 46=>179 | 232=>284 | 233=>285 | n=>n,fun | 17=>2 | 18=>4 | 19=>5 | n=>n⟩
theorem Tryz.itoa:Go.Proofs.LaysM.n171 Tryz.prog Tryz.itoa_ren:={
 mixed:=by kernel_rfl
 f129:=Tryz.func222.trans (congrArg some (by kernel_rfl))
 f171:=Tryz.func85.trans (congrArg some (by kernel_rfl))
 f243:=Tryz.func151.trans (congrArg some (by kernel_rfl))
 f246:=Tryz.func189.trans (congrArg some (by kernel_rfl))
 f283:=Tryz.func206.trans (congrArg some (by kernel_rfl))
 f284:=Tryz.func207.trans (congrArg some (by kernel_rfl))
 f285:=Tryz.func208.trans (congrArg some (by kernel_rfl))
 f286:=Tryz.func209.trans (congrArg some (by kernel_rfl))
 f317:=Tryz.func221.trans (congrArg some (by kernel_rfl))
 f318:=Tryz.func223.trans (congrArg some (by kernel_rfl))
 f319:=Tryz.func224.trans (congrArg some (by kernel_rfl))
 f320:=Tryz.func225.trans (congrArg some (by kernel_rfl))
 f337:=Tryz.func240.trans (congrArg some (by kernel_rfl))
 f338:=Tryz.func241.trans (congrArg some (by kernel_rfl))
 t0:=Tryz.underlying0
 a0:=Tryz.isAgg0
 z0:=Tryz.sizeOf0
 v0:=Tryz.zeroValue0
 t2:=Tryz.underlying2
 a2:=Tryz.isAgg2
 z2:=Tryz.sizeOf2
 v2:=Tryz.zeroValue2
 t3:=Tryz.underlying3
 a3:=Tryz.isAgg3
 z3:=Tryz.sizeOf3
 v3:=Tryz.zeroValue3
 t4:=Tryz.underlying4
 a4:=Tryz.isAgg4
 z4:=Tryz.sizeOf4
 v4:=Tryz.zeroValue4
 t5:=Tryz.underlying5
 a5:=Tryz.isAgg5
 z5:=Tryz.sizeOf5
 v5:=Tryz.zeroValue5
 t9:=Tryz.underlying9
 a9:=Tryz.isAgg9
 z9:=Tryz.sizeOf9
 v9:=Tryz.zeroValue9
 t20:=Tryz.underlying20
 a20:=Tryz.isAgg20
 z20:=Tryz.sizeOf20
 v20:=Tryz.zeroValue20
 t37:=Tryz.underlying144
 a37:=Tryz.isAgg144
 z37:=Tryz.sizeOf144
 v37:=Tryz.zeroValue144
 t46:=Tryz.underlying179
 a46:=Tryz.isAgg179
 z46:=Tryz.sizeOf179
 v46:=Tryz.zeroValue179
 t51:=Tryz.underlying256
 a51:=Tryz.isAgg256
 z51:=Tryz.sizeOf256
 v51:=Tryz.zeroValue256
 t53:=Tryz.underlying243
 a53:=Tryz.isAgg243
 z53:=Tryz.sizeOf243
 v53:=Tryz.zeroValue243
 t171:=Tryz.underlying242
 a171:=Tryz.isAgg242
 z171:=Tryz.sizeOf242
 v171:=Tryz.zeroValue242
 t173:=Tryz.underlying246
 a173:=Tryz.isAgg246
 z173:=Tryz.sizeOf246
 v173:=Tryz.zeroValue246
 t212:=Tryz.underlying255
 a212:=Tryz.isAgg255
 z212:=Tryz.sizeOf255
 v212:=Tryz.zeroValue255
 t213:=Tryz.underlying257
 a213:=Tryz.isAgg257
 z213:=Tryz.sizeOf257
 t232:=Tryz.underlying284
 a232:=Tryz.isAgg284
 z232:=Tryz.sizeOf284
 v232:=Tryz.zeroValue284
 t233:=Tryz.underlying285
 a233:=Tryz.isAgg285
 z233:=Tryz.sizeOf285
 v233:=Tryz.zeroValue285
 g17:=by kernel_rfl
 g18:=by kernel_rfl
 g19:=by kernel_rfl
 i0:=by kernel_rfl
 i2:=by kernel_rfl
 i3:=by kernel_rfl
 i4:=by kernel_rfl
 i5:=by kernel_rfl
 i9:=by kernel_rfl
 i20:=by kernel_rfl
 i37:=by kernel_rfl
 i46:=by kernel_rfl
 i51:=by kernel_rfl
 i53:=by kernel_rfl
 i171:=by kernel_rfl
 i173:=by kernel_rfl
 i212:=by kernel_rfl
 i232:=by kernel_rfl
 i233:=by kernel_rfl
 m17:=by kernel_rfl
 m18:=by kernel_rfl
 m19:=by kernel_rfl }
def Tryz.jn_ren:Go.Shelf.Ren:=⟨fun | 156=>184 | 165=>202 | 166=>81 | 169=>87 | 240=>145 | 241=>219 | 276=>185 | 277=>239 | n=>n,fun | 31=>73 | 9=>9 | 3=>3 | 4=>4 | 0=>0 | 20=>20 | 72=>146 | 76=>149 | 70=>143 | 37=>144 | 75=>148 | 127=>204 | 164=>226 | 5=>5 | 80=>161 | n=>n,fun | n=>n⟩
theorem Tryz.jn:Go.Proofs.Lays.n156 Tryz.prog Tryz.jn_ren:={
 mixed:=by kernel_rfl
 f156:=Tryz.func184.trans (congrArg some (by kernel_rfl))
 f165:=Tryz.func202.trans (congrArg some (by kernel_rfl))
 f166:=Tryz.func81.trans (congrArg some (by kernel_rfl))
 f169:=Tryz.func87.trans (congrArg some (by kernel_rfl))
 f240:=Tryz.func145.trans (congrArg some (by kernel_rfl))
 f241:=Tryz.func219.trans (congrArg some (by kernel_rfl))
 f276:=Tryz.func185.trans (congrArg some (by kernel_rfl))
 f277:=Tryz.func239.trans (congrArg some (by kernel_rfl))
 t0:=Tryz.underlying0
 a0:=Tryz.isAgg0
 z0:=Tryz.sizeOf0
 v0:=Tryz.zeroValue0
 t3:=Tryz.underlying3
 a3:=Tryz.isAgg3
 z3:=Tryz.sizeOf3
 v3:=Tryz.zeroValue3
 t4:=Tryz.underlying4
 a4:=Tryz.isAgg4
 z4:=Tryz.sizeOf4
 v4:=Tryz.zeroValue4
 t9:=Tryz.underlying9
 a9:=Tryz.isAgg9
 z9:=Tryz.sizeOf9
 v9:=Tryz.zeroValue9
 t20:=Tryz.underlying20
 a20:=Tryz.isAgg20
 z20:=Tryz.sizeOf20
 v20:=Tryz.zeroValue20
 t31:=Tryz.underlying73
 a31:=Tryz.isAgg73
 z31:=Tryz.sizeOf73
 v31:=Tryz.zeroValue73
 t37:=Tryz.underlying144
 a37:=Tryz.isAgg144
 z37:=Tryz.sizeOf144
 v37:=Tryz.zeroValue144
 t70:=Tryz.underlying143
 a70:=Tryz.isAgg143
 z70:=Tryz.sizeOf143
 v70:=Tryz.zeroValue143
 t72:=Tryz.underlying146
 a72:=Tryz.isAgg146
 z72:=Tryz.sizeOf146
 v72:=Tryz.zeroValue146
 t75:=Tryz.underlying148
 a75:=Tryz.isAgg148
 z75:=Tryz.sizeOf148
 v75:=Tryz.zeroValue148
 t76:=Tryz.underlying149
 a76:=Tryz.isAgg149
 z76:=Tryz.sizeOf149
 v76:=Tryz.zeroValue149
 t127:=Tryz.underlying204
 a127:=Tryz.isAgg204
 z127:=Tryz.sizeOf204
 v127:=Tryz.zeroValue204
 t164:=Tryz.underlying226
 a164:=Tryz.isAgg226
 z164:=Tryz.sizeOf226
 v164:=Tryz.zeroValue226 }
end Go.Proofs
namespace Kw
open Go
def RD {α:Type} (d:Nat):Result α->Prop
 | .ok _ w=>d<=w.drawn
 | .halt _ w=>d<=w.drawn
theorem RD.mono {α:Type}{d d':Nat}{r:Result α} (h:d<=d') (hr:RD d' r):RD d r:=by
 cases r <;> exact Rr h hr
theorem By {α:Type} (a:Ask α) (w:World):w.drawn<=(w.ask a).2.drawn:=by
 induction a generalizing w with
 | done=>exact Rw _
 | ask what range k ih =>
  unfold World.ask;simp only;split
  ·exact ih _ _
  ·exact Rr (Tz _) (ih _ { w with drawn:=w.drawn+1 })
theorem yz (w:World) (c:Sys):w.drawn<=(w.sys c).2.drawn:=by
 unfold World.sys;have h:=By (Kernel.perform c w.os) w;split
 ·exact Rw _
 ·rename_i e;rw [e] at h;exact h
theorem pZ {p:Program}{w:World}{at_:Addr}{u:TypeId}{k:Addr}{v:Value}{b:Bool}{r:World × List Addr} (h:w.viewStore p at_ u k v b=.ok r):r.1.drawn=w.drawn:=by
 unfold World.viewStore at h;simp only [bind,Except.bind,pure,Except.pure,MonadExcept.throw,throwThe,MonadExceptOf.throw] at h
 repeat' split at h
 all_goals cases h
 all_goals rfl
theorem lS {p:Program}{w w':World}{a:Addr}{v:Value}{b:Bool}{l:List Addr} (h:w.farStore p a v b=.ok (w',l)):w'.drawn=w.drawn:=by
 unfold World.farStore at h
 repeat' split at h
 ·cases h;rename_i e;exact pZ e
 all_goals cases h
theorem nF (w:World) (a:Addr) (v:Value):(w.setCell a v).drawn=w.drawn:=by
 unfold World.setCell;rfl
theorem qa (w:World) (a:Addr) (n:Nat):(w.freeze a n).drawn=w.drawn:=by
 unfold World.freeze;split <;> rfl
theorem vg {α:Type} (p:Program) (s:Sem α) (w:World):RD w.drawn (s.run p w):=by
 induction s generalizing w with
 | pure=>exact Rw _
 | load m a k ih =>
  unfold Sem.run;split
  ·exact ih _ _
  ·split
   ·exact ih _ _
   ·exact Rw _
 | store m a v k ih =>
  have key:RD w.drawn (match w.cell? a with
   | some _ => if w.frozen? a then .halt (.unsupported (.unsafePointer "a write to bytes that a string shares")) w else k.run p (w.setCell a v)
   | none=>match w.farStore p a v (m == .atomic) with
    | .ok (w,_)=>k.run p w
    | .error h=>.halt h w):=by
   split
   ·split
    ·exact Rw _
    ·have:=ih (w.setCell a v);rw [nF] at this;exact this
   ·split
    ·rename_i e;rw [←lS e];exact ih _
    ·exact Rw _
  cases v <;> first | exact key | exact Rw _
 | new o k ih=>exact ih _ { w with heap:=w.heap.push o }
 | shape r k ih=>exact ih _ _
 | freeze a n k ih=>have:=ih (w.freeze a n);rw [qa] at this;exact this
 | frozen a k ih=>exact ih _ _
 | getObj r k ih =>
  unfold Sem.run;split
  ·exact Rw _
  ·exact ih _ _
  ·exact Rw _
 | setObj r o k ih =>
  unfold Sem.run;split
  ·exact Rw _
  ·exact ih { w with heap:=w.heap.setIfInBounds r o }
  ·exact Rw _
 | choose q k ih =>
  unfold Sem.run;split
  ·exact ih _ _
  ·exact RD.mono (Tz _) (ih _ { w with drawn:=w.drawn+1 })
 | sys c k ih=>exact RD.mono (yz w c) (ih _ _)
 | program k ih=>exact ih _ _
 | mark m k ih=>exact ih _
 | halt h=>exact Rw _
theorem j0 {α:Type} (p:Program) (s:Sem α) (w:World) (es:Array Event):RD w.drawn (s.runT p w es).1:=by
 induction s generalizing w es with
 | pure=>exact Rw _
 | load m a k ih =>
  unfold Sem.runT;split
  ·exact ih _ _ _
  ·split
   ·exact ih _ _ _
   ·exact Rw _
 | store m a v k ih =>
  have key:RD w.drawn (match w.cell? a with
   | some _ =>
    if w.frozen? a then (Result.halt (.unsupported (.unsafePointer "a write to bytes that a string shares")) w, es)
    else k.runT p (w.setCell a v) (es.push ⟨.cell a,true,m == Mode.atomic⟩)
   | none=>match w.farStore p a v (m == Mode.atomic) with
    | .ok (w,touched)=>k.runT p w (es++touched.toArray.map fun x=>(⟨.cell x,true,m == Mode.atomic⟩:Event))
    | .error h=>(Result.halt h w,es)).1:=by
   split
   ·split
    ·exact Rw _
    ·have:=ih (w.setCell a v) (es.push ⟨.cell a,true,m == .atomic⟩);rw [nF] at this;exact this
   ·split
    ·rename_i e;rw [←lS e];exact ih _ _
    ·exact Rw _
  cases v <;> first | exact key | exact Rw _
 | new o k ih=>exact ih _ { w with heap:=w.heap.push o } _
 | shape r k ih=>exact ih _ _ _
 | freeze a n k ih=>have:=ih (w.freeze a n) es;rw [qa] at this;exact this
 | frozen a k ih=>exact ih _ _ _
 | getObj r k ih =>
  unfold Sem.runT;split
  ·exact Rw _
  ·exact ih _ _ _
  ·exact Rw _
 | setObj r o k ih =>
  unfold Sem.runT;split
  ·exact Rw _
  ·exact ih { w with heap:=w.heap.setIfInBounds r o } _
  ·exact Rw _
 | choose q k ih =>
  unfold Sem.runT;split
  ·exact ih _ _ _
  ·exact RD.mono (Tz _) (ih _ { w with drawn:=w.drawn+1 } _)
 | sys c k ih=>exact RD.mono (yz w c) (ih _ _ _)
 | program k ih=>exact ih _ _ _
 | mark m k ih=>exact ih _ _
 | halt h=>exact Rw _
section
variable {α:Type}{p:Program}{s:Sem α}{w w':World}{a:α}{h:Halt}{es es' es2:Array Event}{l:Bool}
theorem dj (e:s.run p w=.ok a w'):w.drawn<=w'.drawn:=by have:=vg p s w;rw [e] at this;exact this
theorem uq (e:s.run p w=.halt h w'):w.drawn<=w'.drawn:=by have:=vg p s w;rw [e] at this;exact this
theorem vZ (e:s.runT p w es=(.ok a w',es')):w.drawn<=w'.drawn:=by have:=j0 p s w es;rw [e] at this;exact this
theorem sV (e:s.runT p w es=(.halt h w',es')):w.drawn<=w'.drawn:=by have:=j0 p s w es;rw [e] at this;exact this
theorem iP (e:(s.runT p w es).1=.ok a w'):w.drawn<=w'.drawn:=by have:=j0 p s w es;rw [e] at this;exact this
theorem nB (e:(s.runT p w es).1=.halt h w'):w.drawn<=w'.drawn:=by have:=j0 p s w es;rw [e] at this;exact this
end
def GD (d:Nat):GStep->Prop
 | .go _ w _=>d<=w.drawn
 | .comm _ _ _ _ w _=>d<=w.drawn
 | .spawn _ _ w _=>d<=w.drawn
 | .count _ w _=>d<=w.drawn
 | .timer _ _ w _=>d<=w.drawn
 | .alone _ _ w _=>d<=w.drawn
 | .newcoro _ _ _ w _=>d<=w.drawn
 | .coroswitch _ _ _ w _=>d<=w.drawn
 | .collect _ w _=>d<=w.drawn
 | .watch _ w _=>d<=w.drawn
 | .ended ..=>True
theorem GD.after {d:Nat}{es:Array Event}{g:GStep} (h:GD d g):GD d (g.after es):=by cases g <;> exact h
theorem GD.ite {d:Nat}{c:Prop} [Decidable c] {a b:GStep} (h1:GD d a) (h2:GD d b):GD d (if c then a else b):=by split <;> assumption
theorem GD.elim {d:Nat}{α:Type}{o:Option α}{a:GStep}{f:α->GStep} (h1:GD d a) (h2:∀ x,GD d (f x)):GD d (o.elim a f):=by cases o <;> first | exact h1 | exact h2 _
theorem wJ {d:Nat}{fr:Frame}{l:List ByteArray}{m:String}{b:Bool}{w:World} (h:d<=w.drawn):GD d (dieOf fr l m b w):=h
theorem eA {d:Nat}{fr:Frame}{m:String}{w:World} (h:d<=w.drawn):GD d (endThrow fr m w):=h
theorem tp (d:Nat) (w:World) (fd:Nat) (t:ByteArray) (o:Outcome):GD d (endWith w fd t o):=by
 unfold endWith;simp only
 repeat' split
 all_goals trivial
theorem ja {d:Nat}{p:Program}{fr:Frame}{v:Value}{w:World} (h:d<=w.drawn):GD d (endPrinting p fr v w):=by
 unfold endPrinting;simp only;split
 ·exact eA h
 ·trivial
theorem ji {d:Nat}{p:Program}{fr:Frame}{cs:List Frame}{dy:Option Dying}{m:String}{w:World} (h:d<=w.drawn):GD d (endFatal p fr cs dy m w):=by
 unfold endFatal;simp only;split
 ·exact wJ (Rr h (dj (by assumption)))
 ·trivial
 ·trivial
theorem tL {d:Nat}{p:Program}{fr:Frame}{dy:Dying}{f:Fatal}{w:World} (h:d<=w.drawn):GD d (writeOn p fr dy f w):=by
 unfold writeOn;simp only;split
 ·trivial
 ·split
  ·exact Rr h (vZ (by assumption))
  ·exact Rr h (sV (by assumption))
  ·trivial
  ·trivial
theorem BQ {d:Nat}{p:Program}{fr:Frame}{dy:Dying}{w:World} (h:d<=w.drawn):GD d (die p fr dy w):=by
 unfold die;simp only
 repeat' first | apply GD.after | split
 all_goals first | exact tL h | exact h | exact tp _ _ _ _ _ | exact Rr h (dj (by assumption)) | exact Rr h (iP (by assumption)) | exact ja (Rr h (nB (by assumption))) | trivial
theorem rI {d:Nat}{p:Program}{fr:Frame}{cs:List Frame}{dy:Option Dying}{g:Nat}{w:World} (h:d<=w.drawn):GD d (early p fr cs dy g w):=by
 have nY:∀ w:World,d<=w.drawn->GD d (match w.heap[g]? with
  | some (.pending c elem)=>.go { frame:=fr,callers:=cs,status:=.running,dying:=dy } { w with heap:=w.heap.setIfInBounds g (.cells c elem) }
  | _ => .ended (.stuck "early: the variable does not wait" (fr.pos p)) w) := by
  intro w h;split
  ·exact h
  ·trivial
 unfold early;simp only;split
 ·exact nY _ h
 ·split
  ·trivial
  ·split
   ·exact nY _ h
   ·split
    ·exact nY _ h
    ·split
     ·trivial
     ·exact h
     ·trivial
     ·exact nY _ h
     ·split
      ·exact h
      ·split
       ·exact nY _ h
       ·split
        ·exact nY _ (Rr h (dj (by assumption)))
        ·exact Rr h (dj (by assumption))
        ·trivial
theorem jm {d:Nat}{p:Program}{main:Bool}{fr:Frame}{cs:List Frame}{dy:Option Dying}{v:Value}{w:World} (h:d<=w.drawn):GD d (doReturn p main fr cs dy v w):=by
 unfold doReturn;simp only;split
 ·split <;> exact h
 ·split
  ·exact h
  ·trivial
  ·split
   ·exact h
   ·split
    ·exact h
    ·trivial
theorem lA {d:Nat}{p:Program}{fr:Frame}{cs:List Frame}{dy:Option Dying}{df:Deferred}{w:World} (h:d<=w.drawn):GD d (callDeferred p fr cs dy df w):=by
 unfold callDeferred;simp only;refine GD.ite trivial ?_
 ·apply GD.after;have hr:=j0 p (invoke df.target df.args) w #[];generalize (invoke df.target df.args).runT p w #[]=x at hr ⊢;obtain ⟨r,es⟩:=x;simp only at hr ⊢;have Eh:=hr.mono h;clear hr;cases r with
  | ok a w' =>
   have hw:d<=w'.drawn:=Eh;cases a
   all_goals first | exact hw | trivial | dsimp only | skip
   all_goals (repeat' split)
   all_goals first | exact hw | trivial | (cases ‹Result.ok _ _=Result.ok _ _› <;> first | exact hw | trivial)
  | halt ha w' =>
   have hw:d<=w'.drawn:=Eh;cases ha
   all_goals first | exact hw | trivial | exact ji hw | exact eA hw
theorem ux {d:Nat}{p:Program}{main:Bool}{fr:Frame}{cs:List Frame}{dy:Option Dying}{w:World} (h:d<=w.drawn):GD d (unwind p main fr cs dy w):=by
 unfold unwind;simp only;split
 ·apply GD.after;split
  ·exact Rr h (iP (by assumption))
  ·trivial
 ·exact lA h
 ·split
  ·trivial
  ·split
   ·trivial
   ·split
    ·exact h
    ·split
     ·split
      ·exact h
      ·split
       ·exact Rr h (dj (by assumption))
       ·trivial
       ·trivial
     ·split
      ·exact ja h
      ·trivial
  ·split
   ·exact jm h
   ·apply GD.after;split
    ·exact jm (Rr h (iP (by assumption)))
    ·trivial
    ·trivial
theorem kW {d:Nat}{p:Program}{l:Bool}{fr:Frame}{cs:List Frame}{dy:Option Dying}{s:Sem Next}{w:World} (h:d<=w.drawn):GD d (stepG.apply p l fr cs dy s w):=by
 unfold stepG.apply;simp only;apply GD.after;have hr:RD d (if l=true then s.runT p w #[] else (s.run p w,#[])).1:=by
  split
  ·exact (j0 p s w #[]).mono h
  ·exact (vg p s w).mono h
 generalize (if l=true then s.runT p w #[] else (s.run p w,#[]))=x at hr ⊢;obtain ⟨r,es⟩:=x;simp only at hr ⊢;cases r with
 | ok a w' =>
  have hw:d<=w'.drawn:=hr;cases a
  all_goals first | exact hw | trivial | dsimp only
  all_goals (repeat' first | apply GD.ite | split)
  all_goals first | exact hw | exact eA hw | trivial
 | halt ha w' =>
  have hw:d<=w'.drawn:=hr;cases ha
  all_goals first | exact hw | trivial | exact ji hw | exact eA hw | dsimp only | skip
  all_goals (repeat' split)
  all_goals first | exact hw | trivial | exact ji hw | exact eA hw | exact rI hw | (cases ‹Result.halt _ _=Result.halt _ _› <;> first | exact hw | trivial | exact rI hw)
theorem uG {d:Nat}{p:Program}{l:Bool}{fr:Frame}{cs:List Frame}{dy:Option Dying}{w:World} (h:d<=w.drawn):GD d (stepG.oper p l fr cs dy w):=by
 unfold stepG.oper
 repeat' split
 all_goals first | exact kW h | trivial
theorem zI {d:Nat}{p:Program}{main l:Bool}{fr:Frame}{cs:List Frame}{dy:Option Dying}{w:World} (h:d<=w.drawn):GD d (stepG.exec p main l fr cs dy w):=by
 have lv:∀ (c:Prop) [Decidable c] (jump:Option Code),GD d (match fr.roundOf with
   | none => if c then .go { frame := { fr with mode := .returning }, callers := cs, status := .running, dying := dy } w else .ended (.stuck "exit, goto: no such block or label" (fr.pos p)) w
   | some l =>
    GStep.after (seen p fr.fn ((Instr.endRound l jump).runT p w #[]).2) <| match ((Instr.endRound l jump).runT p w #[]).1 with
    | .ok v w=>doReturn p main fr cs dy v w
    | .halt _ w => .ended (.stuck "range over a function: no such loop" (fr.pos p)) w) := by
  intro c _ jump;split
  ·refine GD.ite ?_ trivial;exact h
  ·apply GD.after;split
   ·exact jm (Rr h (iP (by assumption)))
   ·trivial
 unfold stepG.exec;simp only;split
 all_goals first | exact h | exact lv _ _ | trivial | exact kW h | exact uG h | skip
 ·split <;> first | exact h | trivial
 ·exact GD.elim (lv _ _) fun _=>h
 ·exact GD.elim (lv _ _) fun _=>h
 ·apply GD.after;split
  ·exact kW (Rr h (iP (by assumption)))
  ·trivial
 ·apply GD.after;split
  ·exact Rr h (iP (by assumption))
  ·exact Rr h (nB (by assumption))
  ·trivial
 ·exact GD.elim trivial fun _=>kW h
 ·refine GD.ite h ?_;split
  ·exact Rr h (dj (by assumption))
  ·trivial
 ·exact GD.ite (uG h) h
theorem xw {d:Nat}{p:Program}{main l:Bool}{g:Goroutine}{w:World} (h:d<=w.drawn):GD d (stepG p main g w l):=by
 unfold stepG;split;split
 ·exact BQ h
 ·exact zI h
 ·exact ux h
def SD (d:Nat):Stepped->Prop
 | .next m=>d<=m.world.drawn
 | .ended ..=>True
theorem ve {d:Nat}{p:Program}{gs:Array Goroutine}{rest:Rest}{w:World} (h:d<=w.drawn):SD d (look p gs rest w):=by
 unfold look;simp only;split
 ·split
  ·trivial
  ·split
   ·trivial
   ·split
    ·have e:=dj ‹Sem.run _ _ _=Result.ok _ _›;exact Rr h e
    ·trivial
    ·trivial
 ·trivial
theorem qE {r:Rest}{cs:Array CommCase}{w w':World} (h:waitingAt r cs w=some w'):w'.drawn=w.drawn:=by
 unfold waitingAt at h
 repeat' split at h
 all_goals cases h
 all_goals rfl
theorem m5 {d:Nat}{p:Program}{rest:Rest}{gs:Array Goroutine}{i:Nat}{g:Goroutine}{cases_:Array CommCase}{b:Bool}{sh:CommShape}{w:World} (h:d<=w.drawn):SD d (communicate p rest gs i g cases_ b sh w).1:=by
 unfold communicate;simp only
 repeat' split
 all_goals first
  | exact h
  | trivial
  | (have e:=dj ‹Sem.run _ _ w=Result.ok _ _›;have e2:=dj ‹Sem.run _ _ _=Result.ok _ _›;exact Rr h (Rr e e2))
  | (have e:=dj ‹Sem.run _ _ w=Result.ok _ _›;have e2:=uq ‹Sem.run _ _ _=Result.halt _ _›;exact Rr h (Rr e e2))
  | (have e:=dj ‹Sem.run _ _ w=Result.ok _ _›;exact Rr h e)
  | (have e:=qE ‹_›;rw [←e] at h;exact h)
theorem pD (m:Machine) (k:Nat) (t:Timer) (a b:Nat):(retime m k t a b).2.world.drawn=m.world.drawn:=by
 unfold retime;simp only;split
 ·unfold drain;split <;> rfl
 ·rfl
theorem tU {m m':Machine}{a:Addr} (h:timerOp.opened m a=some m'):m'.world.drawn=m.world.drawn:=by
 unfold timerOp.opened at h;split at h
 ·split at h
  ·cases h;rfl
  ·cases h
 ·cases h;rfl
theorem sN {m m':Machine}{op:TimerOp}{v:Value} (h:timerOp m op=.ok (v,m')):m'.world.drawn=m.world.drawn:=by
 have nm:∀ (var:Addr) (f:Nat->Timer->Value × Machine) (d:Nat),(∀ k t,(f k t).2.world.drawn=d)->timerOp.named m var f=.ok (v,m')->m'.world.drawn=d:=by
  intro var f d hf h;unfold timerOp.named at h;split at h
  ·have e:=Except.ok.inj h;have e2:=congrArg (fun x=>x.2.world.drawn) e;simp only at e2;rw [←e2];exact hf _ _
  ·cases h
 unfold timerOp at h;split at h
 ·split at h
  ·cases h;rfl
  ·split at h
   ·split at h
    ·cases h
    ·cases h;rfl
   ·cases h
 ·exact nm _ (fun k t=>retime m k t 0 t.period) _ (fun k t=>pD _ _ _ _ _) h
 ·split at h
  ·rename_i m1 ho;have e:=nm _ _ _ (fun k t=>pD m1 k t _ _) h;exact e.trans (tU ho)
  ·cases h
 ·cases h;rfl
theorem wY {d:Nat}{p:Program}{m:Machine}{i:Nat}{l:Bool} (h:d<=m.world.drawn):SD d (Go.runT p m i l).1:=by
 unfold Go.runT;simp only;have hs:=xw (p:=p) (main:=i == 0) (l:=l) (g:=(m.gs.swapAt! i { (default:Goroutine) with status:=.finished }).1) h;generalize stepG p (i == 0) (m.gs.swapAt! i { (default:Goroutine) with status:=.finished }).1 m.world l=s at hs ⊢;cases s with
 | go g w es=>exact hs
 | comm g c b sh w es=>exact m5 hs
 | spawn g c w es=>exact hs
 | count g w es =>
  dsimp only;split
  ·trivial
  ·exact hs
 | timer g op w es =>
  dsimp only;split
  ·have e:=sN ‹timerOp _ _=_›;have e2:d<=w.drawn:=hs;show d<=_;rw [←(show _=w.drawn from e)] at e2;exact e2
  ·split
   ·rename_i e;exact (congrArg (GD d) e).mp (eA hs)
   ·trivial
  ·trivial
  ·trivial
 | alone g on w es=>exact hs
 | newcoro g c df w es=>exact hs
 | coroswitch g c ex w es =>
  dsimp only;split
  ·exact hs
  ·split
   ·rename_i e;exact (congrArg (GD d) e).mp (eA hs)
   ·trivial
  ·trivial
 | collect g w es=>exact ve hs
 | watch g w es=>exact hs
 | ended o w es=>trivial
theorem wH {d:Nat}{p:Program}{m:Machine}{k:Nat} (h:d<=m.world.drawn):SD d (serve p m k):=by
 unfold serve;split
 ·trivial
 ·exact h
 ·dsimp only;split
  ·trivial
  ·exact h
def MD (d:Nat):Move->Prop
 | .goroutine m _=>d<=m.world.drawn
 | .machine s _=>SD d s
theorem oH {d:Nat}{p:Program}{m:Machine} (h:d<=m.world.drawn):MD d (askOn p m):=by
 have pk:∀ m:Machine,d<=m.world.drawn->∀ rs:List Nat,MD d (match (choose (.sched rs.length)).run p m.world with
   | .halt _ w => .machine (.ended (.stuck "sched" "") w)
   | .ok k world =>
    if rs.length<=1 then .goroutine { m with world } (rs.getD k 0) else
    match (choose (.extern "sched.slice" 65536)).run p world with
    | .halt _ w => .machine (.ended (.stuck "sched.slice" "") w)
    | .ok n world=>.goroutine { m with world,rest:={ m.rest with slice:=if n=0 then none else some (rs.getD k 0,n) } } (rs.getD k 0)):=by
  intro m h rs;split
  ·trivial
  ·rename_i w1 e1;have h1:=Rr h (dj e1);split
   ·exact h1
   ·split
    ·trivial
    ·rename_i w2 e2;exact Rr h1 (dj e2)
 unfold askOn;simp only;split
 ·trivial
 ·rename_i k w1 e1;have h1:=Rr h (dj e1);split
  ·exact wH h1
  ·split
   ·split
    ·exact h1
    ·split
     ·exact h1
     ·split <;> trivial
   ·split
    ·exact pk { m with world:=w1 } h1 _
    ·split
     ·trivial
     ·rename_i e2;exact pk { m with world:=_ } (Rr h1 (dj e2)) _
     ·rename_i e2;have e3:=dj e2;exact Rr h1 e3
     ·rename_i e2;have e3:=dj e2;exact pk (Machine.advanceTo { m with world:=_ } _) (Rr h1 e3) _
theorem uZ {d:Nat}{p:Program}{m:Machine} (h:d<=m.world.drawn):MD d (Go.ask p m):=by
 unfold Go.ask;split
 ·split
  ·trivial
  ·rename_i w1 e1;have h1:=Rr h (dj e1);have hl:=ve (p:=p) (gs:=m.gs) (rest:=m.rest) h1;generalize look p m.gs m.rest w1=s at hl ⊢;cases s with
   | next m=>exact oH hl
   | ended o w=>trivial
  ·rename_i w1 _ e1;exact oH (m:={ m with world:=w1 }) (Rr h (dj e1))
 ·exact oH h
theorem Aj {d:Nat}{p:Program}{m:Machine} (h:d<=m.world.drawn):MD d (Go.move p m):=by
 unfold Go.move;split
 ·split
  ·exact h
  ·trivial
 ·split
  ·split
   ·exact h
   ·exact uZ h
  ·exact uZ h
theorem AP {p:Program}{m m':Machine} (h:step p m=.next m'):m.world.drawn<=m'.world.drawn:=by
 have hm:=Aj (p:=p) (m:=m) (Rw _);unfold step stepT at h;generalize Go.move p m=mv at hm h;cases mv with
 | goroutine m1 i =>
  have hs:=wY (p:=p) (i:=i) (l:=true) hm;dsimp only at h;rw [h] at hs;exact hs
 | machine s ops =>
  dsimp only at h;subst h;exact hm
theorem vN {p:Program}{m m':Machine} (h:Steps p m m'):m.world.drawn<=m'.world.drawn:=by
 obtain ⟨n,hn⟩:=h
 induction n generalizing m with
 | zero=>cases hn;exact Rw _
 | succ n ih =>
  unfold runN at hn;generalize hs:step p m=s at hn;cases s with
  | next m1=>exact Rr (AP hs) (ih hn)
  | ended o w=>cases hn
theorem qG {p:Program}{f:FuncId}{args:Array Value}{w:World}{v:Value}{R:World->Prop} (h:Calls p f args w fun e w'=>e=.returned v∧R w'):Calls p f args w fun e w'=>e=.returned v∧R w'∧w.drawn<=w'.drawn:=by
 intro cs;obtain ⟨e,w',fr,⟨he,hR⟩,hc,hf,hl⟩:=h cs;subst he;exact ⟨_,w',fr,⟨rfl,hR,vN hc⟩,hc,hf,hl⟩
end Kw
namespace Kw
section
open Go Go.Proofs Go.Shelf Go.RowKit
variable {P:Program}
theorem kL {f:FuncId}{args:Array Value}{H:ae}{v:Value}{Q:Value->ae->Prop} (hfn:∃ fn,P.funcs[f]?=some fn∧fn.body.isSome=true) (hc:∀ w:World,w.heap=H->Calls P f args w fun e w'=>e=.returned v∧Below w.heap.size w w') (h:∀ H',Fr [] H H'->Q v H'):ag P f args Q H:=by
 refine ⟨hfn,fun w hw=>?_⟩;refine (qG (hc w hw)).mono ?_;rintro e w' ⟨rfl,hb,hd⟩;subst hw;refine ⟨v,rfl,h _ ⟨hb.size,fun b er _=>hb.block b er⟩,hb.tape,hb.os,hb.output,hd,hb.size,fun b ds er=>?_⟩;rw [hb.block b (Rt.1 er).1];exact er
end
end Kw
namespace Kw
open Go
def aY (P:Program) (t:TypeId):Option (Nat × Nat × Option Value) :=
 match P.underlying t with
 | some (.slice e)=>(P.info? e).map fun i=>(i.size,i.bytes,i.zero)
 | _=>none
theorem eL {P:Program}{t k bs:Nat}{z:Option Value} (h:aY P t=some (k,bs,z)):∃ e i,P.underlying t=some (.slice e)∧P.info? e=some i∧i.size=k∧i.bytes=bs∧i.zero=z:=by
 unfold aY at h;split at h
 ·rename_i e he;cases hi:P.info? e with
  | none=>simp [hi] at h
  | some i=>simp [hi] at h;exact ⟨e,i,he,hi,h⟩
 ·cases h
section evS
variable {P:Program}{H:ae}
theorem gF {t:TypeId}{i:TypeInfo} (hi:P.info? t=some i){Q:Nat->ae->Prop} (h:Q i.size H):cc P (Go.sizeOf t) Q H :=
 ay (cN hi h)
theorem eb {t:TypeId}{i:TypeInfo}{z:Value} (hi:P.info? t=some i) (hz:i.zero=some z){Q:Value->ae->Prop} (h:Q z H):cc P (zeroValue t) Q H :=
 ay (cN hi (by rw [hz];exact h))
theorem dQ {α:Type}{a:α}{Q:α->ae->Prop} (h:Q a H):cc P (Sem.pure a) Q H:=h
theorem iv {n:Nat}{Q:Unit->ae->Prop} (h:Q () H):cc P (askRoom n) Q H:=by
 unfold askRoom;split
 ·exact h
 ·exact h
theorem ti (z:Value) (n:Nat) (hz:z.cells=#[z]):(Array.range n).map (fun i=>z.cells[i % z.cells.size]!)=Array.replicate n z:=by
 rw [hz];apply TR
 ·simp
 ·intro i h1 h2;simp [Nat.mod_one]
theorem ef {T:TypeId}{bs:Nat}{z:Value}{l c:Int}{Q:Value->ae->Prop} (hs:aY P T=some (1,bs,some z)) (hz:z.cells=#[z]) (h0:0<=l) (h1:l<=c) (h2:c<=1099511627776) (hb:bs<=128)
  (h:∀ e,Q (.slice (some ⟨H.size,0,none⟩) l.toNat c.toNat) (H.push (.cells (Array.replicate c.toNat z) e))):cc P (Instr.makeSlice T (.int .i64 l) (.int .i64 c)) Q H:=by
 obtain ⟨e,i,hu,hi,hk,E6,ES⟩:=eL hs;unfold Instr.makeSlice;refine ay (bu hu ?_);refine ay ?_;show cc P (asInt (.int .i64 l)) _ H;simp only [asInt,asIntOf,bind,Sem.bind,pure,cc];refine ay (cN hi ?_);have wl:IntKind.i64.wrap l=l:=ai (by omega) (by omega);have wc:IntKind.i64.wrap c=c:=ai (by omega) (by omega);have hbc:(bs:Int)*c<=128*1099511627776:=by
  refine Int.le_trans (Int.mul_le_mul_of_nonneg_right (by omega:(bs:Int)<=128) (by omega)) (by omega)
 have I7:(decide (c<0) || decide ((i.bytes:Int)*c > 2 ^ 48) || decide (l<0) || decide (l > c))=false:=by
  rw [E6];have e1:¬ c<0:=by omega
  have e2:¬ (bs:Int)*c > 2 ^ 48:=by
   have:(2:Int) ^ 48=281474976710656:=by decide
   omega
  have e3:¬ l<0:=by omega
  have e4:¬ l > c:=by omega
  simp only [e1,e2,e3,e4,decide_false,Bool.or_false]
 simp only [wl,wc,I7,RY,if_false];refine ay (iv ?_);refine ay (gF hi ?_);rw [hk,Rn];by_cases hc:c.toNat=0
 ·simp only [hc,if_true,newRow,newObj,bind,Sem.bind,pure,cc]
  have:=h e;rw [hc] at this;have e0:∀ f:Nat->Value,(Array.range 0).map f=Array.replicate 0 z:=fun f=>by apply TR <;> simp
  rw [e0];exact this
 ·simp only [hc,if_false];refine ay (eb hi ES ?_);simp only [newRow,newObj,bind,Sem.bind,pure,cc];rw [ti z _ hz];exact h e
end evS
def bZ (k:Nat) (H:ae) (a:Option Addr) (l c:Nat) (xs:List Value) (F:aB):Prop :=
 xs.length=l*k∧l<=c∧((a=none∧c=0∧F=[])∨∃ b cs,a=some ⟨b,0,none⟩∧F=[b]∧bW H b cs∧cs.size=c*k∧cs.toList.take (l*k)=xs)
def Rd (k:Nat) (H:ae) (a:Option Addr) (l:Nat) (ys:List Value):Prop :=
 ys.length=l*k∧(a=none->l=0)∧∀ p,a=some p->∀ i,i<l*k->aj H (p.add i)=ys[i]?
theorem bZ.nil (k:Nat) (H:ae):bZ k H none 0 0 [] []:=⟨by simp,Rw _,.inl ⟨rfl,rfl,rfl⟩⟩
theorem bZ.len {k:Nat}{H:ae}{a:Option Addr}{l c:Nat}{xs:List Value}{F:aB} (h:bZ k H a l c xs F):xs.length=l*k:=h.1
theorem bZ.lt {k:Nat}{H:ae}{a:Option Addr}{l c:Nat}{xs:List Value}{F:aB} (h:bZ k H a l c xs F):∀ b∈F,b<H.size:=by
 rcases h.2.2 with ⟨_,_,rfl⟩ | ⟨b,cs,_,rfl,hb,_⟩
 ·simp
 ·intro b' er;simp at er;subst er;exact hb.lt
theorem bZ.keep {k:Nat}{H H':ae}{a:Option Addr}{l c:Nat}{xs:List Value}{F:aB} (h:bZ k H a l c xs F) (he:∀ b∈F,H'[b]?=H[b]?):bZ k H' a l c xs F:=by
 refine ⟨h.1,h.2.1,h.2.2.imp id ?_⟩;rintro ⟨b,cs,h1,rfl,h3,h4⟩;exact ⟨b,cs,h1,rfl,h3.of_eq (he b (by simp)),h4⟩
theorem bZ.fr {k:Nat}{H H':ae}{a:Option Addr}{l c:Nat}{xs:List Value}{F G:aB} (h:bZ k H a l c xs F) (hf:Fr G H H') (hd:∀ b∈F,b∉G):bZ k H' a l c xs F :=
 h.keep fun b hb=>hf.2 b (h.lt b hb) (hd b hb)
theorem bZ.rd {k:Nat}{H:ae}{a:Option Addr}{l c:Nat}{xs:List Value}{F:aB} (h:bZ k H a l c xs F):Rd k H a l xs:=by
 refine ⟨h.1,fun ha=>?_,fun p hp i hi=>?_⟩
 ·rcases h.2.2 with ⟨_,hc,_⟩ | ⟨b,cs,h1,_⟩
  ·have:=h.2.1;omega
  ·rw [h1] at ha;cases ha
 ·rcases h.2.2 with ⟨h0,_,_⟩ | ⟨b,cs,h1,_,h3,h4,h5⟩
  ·rw [h0] at hp;cases hp
  ·rw [h1] at hp;cases hp;rw [ak,Rm,h3.cell,←h5,SU hi];simp
theorem Rd.fr {k:Nat}{H H':ae}{a:Option Addr}{l:Nat}{ys:List Value} (h:Rd k H a l ys) (he:∀ p,a=some p->H'[p.block]?=H[p.block]?):Rd k H' a l ys:=by
 refine ⟨h.1,h.2.1,fun p hp i hi=>?_⟩;rw [←h.2.2 p hp i hi];unfold aj
 have:(p.add i).block=p.block:=by unfold Addr.add;split <;> rfl
 rw [this,he p hp]
section
variable {P:Program}
theorem gh {a:Addr}:∀ (ys:List Value) (i:Nat) (acc:Array Value){Q:Array Value->ae->Prop}{H:ae},
  (∀ j,j<ys.length->aj H (a.add (i+j))=ys[j]?)->Q (acc++ys.toArray) H->cc P (loadCellsFrom a i ys.length acc) Q H
 | [],i,acc,Q,H,_,h=>by simpa [loadCellsFrom,cc,pure] using h
 | y :: r,i,acc,Q,H,hc,h=>by
  refine ⟨y,by simpa using hc 0 (by simp),?_⟩;refine gh r (i+1) (acc.push y) (fun j hj=>?_) ?_
  ·have:=hc (j+1) (by simpa using hj);rw [show i+1+j=i+(j+1) by omega];simpa using this
  ·simpa using h
theorem dP {k:Nat}{H:ae}{a:Option Addr}{l n c:Nat}{ys:List Value}{Q:Array Value->ae->Prop} (hr:Rd k H a l ys) (hn:n<=l) (h:Q (ys.take (n*k)).toArray H) :
  cc P (Builtin.firstCells k n (.slice a l c)) Q H:=by
 cases a with
 | none =>
  have hl:=hr.2.1 rfl;subst hl
  have:ys=[]:=RM (by rw [hr.1];simp);subst this;simpa [Builtin.firstCells,cc,pure] using h
 | some p =>
  have CI:n*k<=ys.length:=by rw [hr.1];exact SV k hn
  have b8:(ys.take (n*k)).length=n*k:=by simp [CI]
  show cc P (loadCellsFrom p 0 (n*k) #[]) Q H;rw [←b8];refine gh _ 0 #[] (fun j hj=>?_) (by simpa using h);rw [b8] at hj;rw [Rm,hr.2.2 p rfl j (by rw [←hr.1];omega),SU hj]
def eI (cs:Array Value) (o:Nat) (vs:List Value):Array Value:=(cs.toList.take o++vs++cs.toList.drop (o+vs.length)).toArray
theorem pM (cs:Array Value) (o:Nat) (v:Value) (vs:List Value) (h:o<cs.size):eI (cs.setIfInBounds o v) (o+1) vs=eI cs o (v :: vs):=by
 unfold eI
 congr 1
 rw [Array.toList_setIfInBounds];have h1:(cs.toList.set o v).take (o+1)=cs.toList.take o++[v]:=by
  rw [To (by simpa using h),List.take_set_of_le (Rw _)];simp
 have h2:(cs.toList.set o v).drop (o+1+vs.length)=cs.toList.drop (o+(v :: vs).length):=by
  rw [List.drop_set_of_lt (by omega)]
  congr 1
  simp;omega
 rw [h1,h2];simp
theorem dS {b:Nat}{t:TypeId}:∀ (vs:List Value) (o i:Nat) (cs:Array Value){Q:Unit->ae->Prop}{H:ae},(∀ v∈vs,dw v=true)->H[b]?=some (.cells cs t (0,0))->o+i+vs.length<=cs.size ->
  (∀ H',H'[b]?=some (.cells (eI cs (o+i) vs) t (0,0))->H'.size=H.size->(∀ b',b'≠b->H'[b']?=H[b']?)->Q () H')->cc P (storeCells ⟨b,o,none⟩ vs i) Q H
 | [],o,i,cs,Q,H,_,hb,_,h=>by
  refine h H ?_ rfl fun _ _=>rfl;rw [hb];simp [eI]
 | v :: r,o,i,cs,Q,H,h1,hb,b8,h=>by
  have hB:bW H b cs:=⟨t,hb⟩;simp only [RF] at b8;refine ⟨h1 v (by simp),?_,?_⟩
  ·rw [ak];exact hB.wr (by omega)
  ·rw [ak];have er:(bc H ⟨b,o+i,none⟩ v)[b]?=some (.cells (cs.setIfInBounds (o+i) v) t (0,0)):=by
    simp [bc,R1,hb]
   refine dS r o (i+1) _ (fun u hu=>h1 u (by simp [hu])) er (by simp;omega) fun H' g1 g2 g3=>h H' ?_ (by rw [g2,d6]) fun b' er=>?_
   ·rw [g1,show o+(i+1)=o+i+1 by omega,pM _ _ _ _ (by omega)]
   ·rw [g3 b' er,cV er]
theorem nu (need:Nat):∀ (r c:Nat),c<=need->Builtin.growBy need r c<=need+(need+768) / 4
 | 0,c,h=>by simp only [Builtin.growBy];omega
 | r+1,c,h=>by
  simp only [Builtin.growBy];split
  ·omega
  ·by_cases h2:c+(c+768) / 4<=need
   ·exact nu need r _ h2
   ·cases r with
    | zero=>simp only [Builtin.growBy];omega
    | succ r=>simp only [Builtin.growBy];rw [Rj (by omega)];omega
theorem fB {need c:Nat} (h:c<need):Builtin.nextslicecap need c<=2*need+512:=by
 unfold Builtin.nextslicecap;split
 ·omega
 ·split
  ·omega
  ·have:=nu need 4 c (by omega);omega
def ku (P:Program) (t:TypeId):Bool:=match P.underlying t with | some (.slice _)=>true | _=>false
theorem jc {T T' T0 k bs:Nat}{z:Value}{H:ae}{a a2:Option Addr}{l c l2 c2:Nat}{xs ys:List Value}{F:aB}{Q:Value->ae->Prop} (hs:aY P T=some (k,bs,some z)) (hz:z.cells.size=k) (hT:ku P T'=true)
  (ho:bZ k H a l c xs F) (hr:Rd k H a2 l2 ys) (C6:∀ v∈ys,dw v=true) (LP:∀ c,c<l+l2->Builtin.nextslicecap (l+l2) c*bs<=281474976710656) (DH:bs≠0)
  (h:∀ a' c' F' H',bZ k H' a' (l+l2) c' (xs++ys) F'->Up F H F' H'->(∀ b∈F',b<H'.size)->Q (.slice a' (l+l2) c') H') :
  cc P (Builtin.append_ #[T,T'] T0 #[.slice a l c,.slice a2 l2 c2]) Q H:=by
 obtain ⟨e,i,hu,hi,hk,hb,ES⟩:=eL hs;obtain ⟨d,hd,Eg⟩:∃ d,P.underlying T'=some (.slice d)∧True:=by
  unfold ku at hT;split at hT
  ·rename_i d hd;exact ⟨d,hd,trivial⟩
  ·cases hT
 show cc P (do
  let .slice elem ← underlying T | stuck "append: slice type expected"
  _) Q H
 refine ay (bu hu ?_);refine ay (gF hi ?_);rw [hk];refine ay (ay (bu hd ?_));simp only [pure,List.getElem_toArray,Tn,SO];refine ay (dQ ?_);simp only [RY,if_false,Rp,if_true];refine ay (show cc P (Builtin.lenOf (.slice a2 l2 c2)) _ H from ?_);refine dQ ?_;by_cases Df:l+l2<=c
 ·simp only [Df,if_true];refine ay (dP hr (Rw _) ?_);have HQ:ys.take (l2*k)=ys:=RJ (by rw [hr.1];exact Rw _);rw [HQ];rcases ho.2.2 with ⟨rfl,CO,rfl⟩ | ⟨b,cs,rfl,rfl,⟨t,hB⟩,s5,lp⟩
  ·have Gh:l=0:=by omega
   have LQ:l2=0:=by omega
   subst Gh;subst LQ;have Da:ys=[]:=RM (by rw [hr.1];simp);have HR:xs=[]:=RM (by rw [ho.1];simp);subst Da;subst HR;subst CO;exact h none 0 [] H (bZ.nil k H) (Up.refl _ _) (by simp)
  ·dsimp only;rw [ak,Rm];refine ay ?_;have Fj:l*k+0+ys.length<=cs.size:=by rw [hr.1,s5,TN,←ST];exact SV k Df
   refine dS ys (l*k) 0 cs C6 hB Fj fun H' g1 g2 g3=>?_;refine h _ _ [b] H' ⟨by rw [Rz,ho.1,hr.1,ST],Df,.inr ⟨b,_,rfl,rfl,⟨t,g1⟩,?_,?_⟩⟩ ⟨⟨by omega,fun b' _ hn=>g3 b' (by simpa using hn)⟩,fun b' er=>.inl er⟩ ?_
   ·simp only [eI,RX,Rz,R5,Tp,Array.length_toList];omega
   ·simp only [eI,TN];have e1:cs.toList.take (l*k)++ys=xs++ys:=by rw [lp]
    rw [e1,Sn (by rw [Rz,ho.1,hr.1,ST];exact Rw _)];exact RJ (by rw [Rz,ho.1,hr.1,ST];exact Rw _)
   ·intro b' er;simp at er;subst er;exact (Rt.1 g1).1
 ·simp only [Df,if_false];have Fk:¬ (((l+l2:Nat):Int) > IntKind.i64.max∧(False∨i.bytes=0)):=by
   rintro ⟨_,h | h⟩
   ·exact h
   ·rw [hb] at h;exact DH h
  refine ay (cN hi ?_);simp only [Fk,if_false];refine ay (cN hi ?_);have GA:¬ Builtin.nextslicecap (l+l2) c*i.bytes > 2 ^ 48:=by
   rw [hb]
   have:=LP c (by omega);omega
  simp only [GA,if_false];refine ay ?_;simp only [choose,cc,Question.forced,RY,if_false];intro t;have Fm:l+l2<=Question.cut (.appendCap (l+l2) c e) t:=by simp only [Question.cut];omega
  generalize Question.cut (.appendCap (l+l2) c e) t=cap' at Fm;refine ay (cN hi ?_);refine ay (iv ?_);refine ay (dP (ho.rd) (Rw _) ?_);refine ay (dP hr (Rw _) ?_);refine ay (eb hi ES ?_);have HS:xs.take (l*k)=xs:=RJ (by rw [ho.1];exact Rw _);have HQ:ys.take (l2*k)=ys:=RJ (by rw [hr.1];exact Rw _);rw [HS,HQ];simp only [newRow,newObj,bind,Sem.bind,pure,cc];refine h _ _ [H.size] _ ⟨by rw [Rz,ho.1,hr.1,ST],Fm,.inr ⟨H.size,_,rfl,rfl,bW.new _ _ _,?_,?_⟩⟩ ⟨Fr.push _ _ _,fun b' er=>?_⟩ ?_
  ·simp only [S8,RX,Builtin.zeroCells,Array.size_map,Array.size_range,hz];rw [ho.1,hr.1,←ST,←ST]
   congr 1
   omega
  ·simp only [Array.toList_append,R9];rw [←R9,Sn (by rw [Rz,ho.1,hr.1,ST];exact Rw _)];exact RJ (by rw [Rz,ho.1,hr.1,ST];exact Rw _)
  ·simp at er;exact .inr (by omega)
  ·intro b' er;simp at er;subst er;simp
theorem dp {T T' T0 k bs:Nat}{z:Value}{H:ae}{a a2:Option Addr}{l c l2 c2:Nat}{xs ys:List Value}{F:aB}{Q:Value->ae->Prop} (hs:aY P T=some (k,bs,some z)) (hz:z.cells.size=k) (hT:ku P T'=true)
  (ho:bZ k H a l c xs F) (hr:Rd k H a2 l2 ys) (C6:∀ v∈ys,dw v=true) (hl:l+l2<=274877906944) (E6:bs<=128) (DH:bs≠0)
  (h:∀ a' c' F' H',bZ k H' a' (l+l2) c' (xs++ys) F'->Up F H F' H'->(∀ b∈F',b<H'.size)->Q (.slice a' (l+l2) c') H') :
  cc P (Builtin.append_ #[T,T'] T0 #[.slice a l c,.slice a2 l2 c2]) Q H :=
 jc hs hz hT ho hr C6 (fun c hc=>by
  have LR:l+l2<=274877906944:=hl
  have:=fB (need:=l+l2) (c:=c) hc;have h3:Builtin.nextslicecap (l+l2) c*bs<=(2*(l+l2)+512)*128:=Nat.mul_le_mul this E6;exact Rr h3 (Rr (SV 128 (Nat.add_le_add_right (Nat.mul_le_mul_left 2 LR) 512)) (by decide))) DH h
theorem lu {T T' T0 k bs:Nat}{z:Value}{H:ae}{a:Option Addr}{l c:Nat}{xs:List Value}{ys:Array Value}{e:TypeId}{F:aB}{Q:Value->ae->Prop} (hs:aY P T=some (k,bs,some z)) (hz:z.cells.size=k) (hT:ku P T'=true)
  (ho:bZ k H a l c xs F) (hy:ys.size=k) (C6:∀ v∈ys.toList,dw v=true) (LP:∀ c,c<l+1->Builtin.nextslicecap (l+1) c*bs<=281474976710656) (DH:bs≠0)
  (h:∀ a' c' F' H',bZ k H' a' (l+1) c' (xs++ys.toList) F'->Up F H F' H'->(∀ b∈F',b<H'.size)->Q (.slice a' (l+1) c') H') :
  cc P (Builtin.append_ #[T,T'] T0 #[.slice a l c,.slice (some ⟨H.size,0,none⟩) 1 1]) Q (H.push (.cells ys e)):=by
 refine jc hs hz hT (ho.fr (Fr.push [] H _) (by simp)) (l2:=1) (ys:=ys.toList) ⟨by simp [hy],by simp,fun p hp i hi=>?_⟩ C6 LP DH fun a' c' F' H' h1 h2 h3=>h a' c' F' H' h1 ?_ h3
 ·cases hp;rw [ak,Rm,(bW.new H ys e).cell];simp
 ·exact ⟨⟨Rr (by simp) h2.1.1,fun b hb hn=>by rw [h2.1.2 b (by simp;omega) hn,(Fr.push F H (.cells ys e)).2 b hb hn]⟩,fun b hb=>(h2.2 b hb).imp id fun DG=>by simp at DG;omega⟩
theorem bD {T T' T0 k bs:Nat}{z:Value}{H:ae}{a:Option Addr}{l c:Nat}{xs:List Value}{ys:Array Value}{e:TypeId}{F:aB}{Q:Value->ae->Prop} (hs:aY P T=some (k,bs,some z)) (hz:z.cells.size=k) (hT:ku P T'=true)
  (ho:bZ k H a l c xs F) (hy:ys.size=k) (C6:∀ v∈ys.toList,dw v=true) (hl:l<274877906944) (E6:bs<=128) (DH:bs≠0)
  (h:∀ a' c' F' H',bZ k H' a' (l+1) c' (xs++ys.toList) F'->Up F H F' H'->(∀ b∈F',b<H'.size)->Q (.slice a' (l+1) c') H') :
  cc P (Builtin.append_ #[T,T'] T0 #[.slice a l c,.slice (some ⟨H.size,0,none⟩) 1 1]) Q (H.push (.cells ys e)) :=
 lu hs hz hT ho hy C6 (fun c hc=>by
  have LR:l+1<=274877906944:=hl
  have:=fB (need:=l+1) (c:=c) hc;have h3:Builtin.nextslicecap (l+1) c*bs<=(2*(l+1)+512)*128:=Nat.mul_le_mul this E6;exact Rr h3 (Rr (SV 128 (Nat.add_le_add_right (Nat.mul_le_mul_left 2 LR) 512)) (by decide))) DH h
theorem sK {T T0 bs:Nat}{z:Value}{H:ae}{b o n c:Nat}{cs:Array Value}{t:TypeId}{Q:Value->ae->Prop} (hs:aY P T=some (1,bs,some z)) (hz:z.cells=#[z]) (La:dw z=true)
  (hb:H[b]?=some (.cells cs t (0,0))) (ho:o+n<=cs.size)
  (h:∀ H',H'[b]?=some (.cells (eI cs o (List.replicate n z)) t (0,0))->H'.size=H.size->(∀ b',b'≠b->H'[b']?=H[b']?)->Q (.tuple #[]) H') :
  cc P (Builtin.clear_ #[T] T0 #[.slice (some ⟨b,o,none⟩) n c]) Q H:=by
 obtain ⟨e,i,hu,hi,hk,E6,ES⟩:=eL hs;cases n with
 | zero =>
  refine ay (bu hu ?_);refine h H ?_ rfl fun _ _=>rfl;rw [hb];simp [eI]
 | succ n =>
  refine ay (bu hu ?_);refine ay (eb hi ES ?_);refine ay ?_;have HT:(Builtin.zeroCells z.cells (n+1)).toList=List.replicate (n+1) z:=by
   rw [hz,Builtin.zeroCells];apply SH
   ·simp
   ·intro j h1 h2;simp [Nat.mod_one]
  rw [HT];exact dS _ o 0 cs (fun v hv=>by rw [List.eq_of_mem_replicate hv];exact La) hb (by simp;omega) fun H' g1 g2 g3=>h H' (by simpa using g1) g2 g3
theorem uc {T T' T0 bs:Nat}{z:Option Value}{H:ae}{b o l c l2 c2:Nat}{a2:Option Addr}{ys:List Value}{cs:Array Value}{t:TypeId}{Q:Value->ae->Prop} (hs:aY P T=some (1,bs,z))
  (hb:H[b]?=some (.cells cs t (0,0))) (ho:o+l<=cs.size) (hr:Rd 1 H a2 l2 ys) (C6:∀ v∈ys,dw v=true) (CI:l2<=l)
  (h:∀ H',H'[b]?=some (.cells (eI cs o ys) t (0,0))->H'.size=H.size->(∀ b',b'≠b->H'[b']?=H[b']?)->Q (.int .i64 l2) H') :
  cc P (Builtin.copy_ #[T,T'] T0 #[.slice (some ⟨b,o,none⟩) l c,.slice a2 l2 c2]) Q H:=by
 obtain ⟨e,i,hu,hi,hk,E6,ES⟩:=eL hs;refine ay (bu hu ?_);refine ay (show cc P (Builtin.lenOf (.slice a2 l2 c2)) _ H from ?_);refine dQ ?_;have hm:Nat.min l2 l=l2:=Nat.min_eq_left CI;dsimp only;rw [hm];refine ay (gF hi ?_);rw [hk];refine ay (show cc P (Builtin.firstCells 1 l2 (.slice a2 l2 c2)) _ H from dP hr (Rw _) ?_);have HQ:ys.take (l2*1)=ys:=RJ (by rw [hr.1];exact Rw _);rw [HQ];refine ay ?_;exact dS ys o 0 cs C6 hb (by rw [hr.1];omega) fun H' g1 g2 g3=>h H' (by simpa using g1) g2 g3
end
theorem aK {α:Type}{x:α}{P:α->Prop}:(∃ q,some x=some q∧P q)↔P x :=
 ⟨fun ⟨_,e,h⟩=>by cases e;exact h,fun h=>⟨x,rfl,h⟩⟩
theorem aC {x:Option Addr}{y z:Nat}{P:Option Addr->Nat->Nat->Prop}:(∃(a:Option Addr) (l c:Nat),some (Value.slice x y z)=some (.slice a l c)∧P a l c)↔P x y z :=
 ⟨fun ⟨a,l,c,e,h⟩=>by cases e;exact h,fun h=>⟨x,y,z,rfl,h⟩⟩
theorem aU {κ:IntKind}{x:Int}{P:Int->Prop}:(∃ n:Int,some (Value.int κ x)=some (.int κ n)∧P n)↔P x :=
 ⟨fun ⟨n,e,h⟩=>by cases e;exact h,fun h=>⟨x,rfl,h⟩⟩
theorem aW {x:Option Addr}{P:Option Addr->Prop}:(∃ a:Option Addr,some (Value.pointer x)=some (.pointer a)∧P a)↔P x :=
 ⟨fun ⟨n,e,h⟩=>by cases e;exact h,fun h=>⟨x,rfl,h⟩⟩
theorem aL {x:Bool}{P:Bool->Prop}:(∃ a:Bool,some (Value.bool x)=some (.bool a)∧P a)↔P x :=
 ⟨fun ⟨n,e,h⟩=>by cases e;exact h,fun h=>⟨x,rfl,h⟩⟩
theorem aX {x:ByteArray}{P:ByteArray->Prop}:(∃ a:ByteArray,some (Value.string x)=some (.string a)∧P a)↔P x :=
 ⟨fun ⟨n,e,h⟩=>by cases e;exact h,fun h=>⟨x,rfl,h⟩⟩
theorem aR {x:Option Nat}{P:Option Nat->Prop}:(∃ a:Option Nat,some (Value.map x)=some (.map a)∧P a)↔P x :=
 ⟨fun ⟨n,e,h⟩=>by cases e;exact h,fun h=>⟨x,rfl,h⟩⟩
theorem aD {x:Option Addr}{y z:Nat}{P:Option Addr->Nat->Nat->Prop}:(∃(a:Option Addr) (l c:Nat),Value.slice x y z=.slice a l c∧P a l c)↔P x y z :=
 ⟨fun ⟨a,l,c,e,h⟩=>by cases e;exact h,fun h=>⟨x,y,z,rfl,h⟩⟩
theorem aT {κ:IntKind}{x:Int}{P:Int->Prop}:(∃ n:Int,Value.int κ x=.int κ n∧P n)↔P x :=
 ⟨fun ⟨n,e,h⟩=>by cases e;exact h,fun h=>⟨x,rfl,h⟩⟩
theorem aS {x:Option Addr}{P:Option Addr->Prop}:(∃ a:Option Addr,Value.pointer x=.pointer a∧P a)↔P x :=
 ⟨fun ⟨n,e,h⟩=>by cases e;exact h,fun h=>⟨x,rfl,h⟩⟩
theorem aJ {x:Bool}{P:Bool->Prop}:(∃ a:Bool,Value.bool x=.bool a∧P a)↔P x :=
 ⟨fun ⟨n,e,h⟩=>by cases e;exact h,fun h=>⟨x,rfl,h⟩⟩
theorem aV {x:ByteArray}{P:ByteArray->Prop}:(∃ a:ByteArray,Value.string x=.string a∧P a)↔P x :=
 ⟨fun ⟨n,e,h⟩=>by cases e;exact h,fun h=>⟨x,rfl,h⟩⟩
theorem av {H:ae}{c:Array Value}{e:TypeId}{fr:Nat × Nat}{i:Nat}{v:Value}:bc (H.push (.cells c e fr)) ⟨H.size,i,none⟩ v=H.push (.cells (c.setIfInBounds i v) e fr):=by
 unfold bc;apply TR
 ·simp
 ·intro j h1 h2;simp only [Array.size_modify,RA] at h1;rw [Array.getElem_modify];split
  ·rename_i h;subst h;simp
  ·rename_i h;have h3:j≠H.size:=fun e=>h e.symm;rw [Array.getElem_push_lt (by omega),Array.getElem_push_lt (by omega)]
theorem aq {H:ae}{c:Array Value}{e:TypeId}{fr:Nat × Nat}{i:Nat}:aj (H.push (.cells c e fr)) ⟨H.size,i,none⟩=c[i]?:=by simp [aj]
theorem aF {H:ae}{c:Array Value}{e:TypeId}{i:Nat}:Wr (H.push (.cells c e)) ⟨H.size,i,none⟩↔i<c.size:=by
 constructor
 ·rintro ⟨⟨v,hv⟩,_⟩;rw [aq] at hv;exact (Rt.1 hv).1
 ·intro h;exact (bW.new H c e).wr h
theorem dc {H:ae}{o:Obj}{a:Addr} (h:a.block<H.size):aj (H.push o) a=aj H a:=by
 unfold aj;rw [SX,Re (by omega)]
theorem Fr.step {F:aB}{H H1:ae}{b o:Nat}{v:Value} (h:Fr F H H1) (hb:b∈F):Fr F H (bc H1 ⟨b,o,none⟩ v):=h.trans (Fr.set hb)
theorem Fr.more {F:aB}{H H1:ae}{o:Obj} (h:Fr F H H1):Fr F H (H1.push o):=h.trans (Fr.push F H1 o)
def cH (n:Nat) (f:Int->Int):List Value:=(List.range n).map fun i:Nat=>.int .i64 (f i)
def dN (H:ae) (b n:Nat) (f:Int->Int):Prop:=bW H b (cH n f).toArray
theorem nA {n:Nat}{f:Int->Int}{i:Nat} (h:i<n):(cH n f)[i]?=some (.int .i64 (f i)):=by simp [cH,h]
theorem qn {n:Nat}{f g:Int->Int} (h:∀ i:Int,0<=i->i<n->f i=g i):cH n f=cH n g:=by
 unfold cH;apply List.map_congr_left;intro i hi;simp only [List.mem_range] at hi;rw [h i (by omega) (by omega)]
theorem dN.congr {H:ae}{b n:Nat}{f g:Int->Int} (h:dN H b n f) (he:∀ i:Int,0<=i->i<n->f i=g i):dN H b n g:=by
 unfold dN;rw [←qn he];exact h
theorem dN.lt {H:ae}{b n:Nat}{f:Int->Int} (h:dN H b n f):b<H.size:=bW.lt h
theorem dN.cell {H:ae}{b n:Nat}{f:Int->Int} (h:dN H b n f){i:Int} (h0:0<=i) (h1:i<n):aj H ⟨b,i.toNat,none⟩=some (.int .i64 (f i)):=by
 rw [bW.cell h]
 have:=nA (f:=f) (n:=n) (i:=i.toNat) (by omega);rw [So h0] at this;simpa using this
theorem dN.wr {H:ae}{b n:Nat}{f:Int->Int} (h:dN H b n f){i:Int} (h0:0<=i) (h1:i<n):Wr H ⟨b,i.toNat,none⟩ :=
 bW.wr h (by simp [cH];omega)
def upd (f:Int->Int) (i v:Int):Int->Int:=fun j=>if j=i then v else f j
theorem sF {n:Nat}{f:Int->Int}{i v:Int} (h0:0<=i):(cH n f).set i.toNat (.int .i64 v)=cH n (upd f i v):=by
 apply SH
 ·simp [cH]
 ·intro j h1 h2;simp only [cH,List.getElem_set,SI,TA,upd];by_cases h:i.toNat=j
  ·rw [Rj h,Rj (by omega)]
  ·rw [Re h,Re (by omega)]
theorem dN.set {H:ae}{b n:Nat}{f:Int->Int} (h:dN H b n f){i:Int} (h0:0<=i) (v:Int):dN (bc H ⟨b,i.toNat,none⟩ (.int .i64 v)) b n (upd f i v):=by
 have:=bW.set h i.toNat (.int .i64 v);unfold dN;rw [←sF h0];simpa using this
theorem dN.fr {F:aB}{H H':ae}{b n:Nat}{f:Int->Int} (h:dN H b n f) (hf:Fr F H H') (hb:b∉F):dN H' b n f:=bW.fr h hf hb
theorem dN.of_eq {H H':ae}{b n:Nat}{f:Int->Int} (h:dN H b n f) (he:H'[b]?=H[b]?):dN H' b n f:=bW.of_eq h he
theorem dN.set_ne {H:ae}{b n:Nat}{f:Int->Int} (h:dN H b n f){a:Addr} (hb:b≠a.block) (v:Value):dN (bc H a v) b n f:=bW.set_ne h hb v
theorem dN.push {H:ae}{b n:Nat}{f:Int->Int} (h:dN H b n f) (o:Obj):dN (H.push o) b n f:=bW.push h o
theorem dN.new (H:ae) (n:Nat) (e:TypeId):dN (H.push (.cells (Array.replicate n (.int .i64 0)) e)) H.size n fun _=>0:=by
 have:Array.replicate n (Value.int .i64 0)=(cH n fun _=>0).toArray:=by
  apply TR
  ·simp [cH]
  ·intro i h1 h2;simp [cH]
 rw [this];exact bW.new _ _ _
theorem dN.own {H:ae}{b n:Nat}{f:Int->Int} (h:dN H b n f):bZ 1 H (some ⟨b,0,none⟩) n n (cH n f) [b] :=
 ⟨by simp [cH],Rw _,.inr ⟨b,_,rfl,rfl,h,by simp [cH],RJ (by simp [cH])⟩⟩
theorem sA {n:Nat}{f:Int->Int}:∀ v∈cH n f,dw v=true:=by
 intro v hv;simp only [cH,RN] at hv;obtain ⟨i,_,rfl⟩:=hv;rfl
theorem dN.rd {H:ae}{b n:Nat}{f:Int->Int} (h:dN H b n f){lo l:Nat} (hl:lo+l<=n):Rd 1 H (some ⟨b,lo,none⟩) l (cH l fun i=>f (lo+i)):=by
 refine ⟨by simp [cH],by simp,fun p hp i hi=>?_⟩;cases hp
 have:=h.cell (i:=((lo+i:Nat):Int)) (by omega) (by omega);rw [ak];rw [Ro] at this;rw [this,nA (by omega)]
 push_cast
 rfl
theorem kB {n o m:Nat}{f g:Int->Int} (h:o+m<=n):eI (cH n f).toArray o (cH m g)=(cH n fun i=>if (o:Int)<=i∧i<o+m then g (i-o) else f i).toArray:=by
 unfold eI
 congr 1
 apply SH
 ·simp [cH];omega
 ·intro j h1 h2;simp only [cH,RZ,List.length_range] at h2;simp only [cH,List.getElem_append,SI,TA,Tm,List.getElem_drop,Rz,R5,RZ,List.length_range];by_cases ha:j<o
  ·have h3:j<min o n:=by omega
   rw [dif_pos (by omega),dif_pos h3,Re (by omega)]
  ·by_cases hb:j<o+m
   ·rw [dif_pos (by omega),dif_neg (by omega),Rj (by omega)]
    congr 2
    omega
   ·rw [dif_neg (by omega),Re (by omega)]
    congr 2
    omega
section
variable {P:Program}
theorem lX {T T0 bs:Nat}{H:ae}{b n:Nat}{f:Int->Int}{lo l c:Nat}{Q:Value->ae->Prop} (hs:aY P T=some (1,bs,some (.int .i64 0))) (hm:dN H b n f) (hl:lo+l<=n)
  (h:∀ H',dN H' b n (fun i=>if (lo:Int)<=i∧i<lo+l then 0 else f i)->H'.size=H.size->(∀ b',b'≠b->H'[b']?=H[b']?)->Q (.tuple #[]) H') :
  cc P (Builtin.clear_ #[T] T0 #[.slice (some ⟨b,lo,none⟩) l c]) Q H:=by
 obtain ⟨t,hb⟩:=hm;have hr:List.replicate l (Value.int .i64 0)=cH l fun _=>0:=by
  apply SH
  ·simp [cH]
  ·intro i h1 h2;simp [cH]
 refine sK hs rfl rfl hb (by simpa [cH] using hl) fun H' h1 h2 h3=>h H' ?_ h2 h3;rw [hr,kB hl] at h1;exact ⟨t,h1⟩
theorem kZ {b cap:Nat}{lo:Int} (h:lo.toNat<cap):ii (some ⟨b,0,none⟩) cap lo 1=some ⟨b,lo.toNat,none⟩:=by
 unfold ii;rw [Re (by omega)];simp
theorem jO {T T0 bs:Nat}{H:ae}{b n:Nat}{f:Int->Int}{lo:Int}{l c:Nat}{Q:Value->ae->Prop} (hs:aY P T=some (1,bs,some (.int .i64 0))) (hm:dN H b n f) (h0:0<=lo) (hl:lo.toNat+l<=n)
  (h:∀ H',dN H' b n (fun i=>if lo<=i∧i<lo+l then 0 else f i)->H'.size=H.size->(∀ b',b'≠b->H'[b']?=H[b']?)->Q (.tuple #[]) H') :
  cc P (Builtin.clear_ #[T] T0 #[.slice (ii (some ⟨b,0,none⟩) n lo 1) l c]) Q H:=by
 by_cases hn:n=lo.toNat
 ·have Gh:l=0:=by omega
  subst Gh;unfold ii;rw [Rj hn];refine lX hs hm (lo:=0) (by omega) fun H' h1 h2 h3=>h H' (h1.congr fun i _ _=>?_) h2 h3;rw [Re (by omega),Re (by omega)]
 ·rw [kZ (by omega)];refine lX hs hm hl fun H' h1 h2 h3=>h H' (h1.congr fun i _ _=>?_) h2 h3;rw [So h0]
theorem tq {T T' T0 bs:Nat}{z:Option Value}{H:ae}{b b2 n n2:Nat}{f g:Int->Int}{lo l c lo2 l2 c2:Nat}{Q:Value->ae->Prop} (hs:aY P T=some (1,bs,z)) (hm:dN H b n f) (Gi:dN H b2 n2 g) (hl:lo+l<=n) (DI:lo2+l2<=n2) (CI:l2<=l)
  (h:∀ H',dN H' b n (fun i=>if (lo:Int)<=i∧i<lo+l2 then g (i-lo+lo2) else f i)->H'.size=H.size->(∀ b',b'≠b->H'[b']?=H[b']?)->Q (.int .i64 l2) H') :
  cc P (Builtin.copy_ #[T,T'] T0 #[.slice (some ⟨b,lo,none⟩) l c,.slice (some ⟨b2,lo2,none⟩) l2 c2]) Q H:=by
 obtain ⟨t,hb⟩:=hm;refine uc hs hb (by simpa [cH] using hl) (Gi.rd DI) sA CI fun H' h1 h2 h3=>h H' ?_ h2 h3;rw [kB (by omega)] at h1;refine dN.congr ⟨t,h1⟩ fun i _ _=>?_;split
 ·congr 1;omega
 ·rfl
theorem ql {T T' T0 bs:Nat}{z:Option Value}{H:ae}{b n:Nat}{f:Int->Int}{lo lo2:Int}{l c l2 c2:Nat}{Q:Value->ae->Prop} (hs:aY P T=some (1,bs,z)) (hm:dN H b n f) (h0:0<=lo) (h1:lo<n) (hl:lo.toNat+l<=n) (h2:0<=lo2) (h3:lo2<n) (DI:lo2.toNat+l2<=n) (CI:l2<=l)
  (h:∀ H',dN H' b n (fun i=>if lo<=i∧i<lo+l2 then f (i-lo+lo2) else f i)->H'.size=H.size->(∀ b',b'≠b->H'[b']?=H[b']?)->Q (.int .i64 l2) H') :
  cc P (Builtin.copy_ #[T,T'] T0 #[.slice (ii (some ⟨b,0,none⟩) n lo 1) l c,.slice (ii (some ⟨b,0,none⟩) n lo2 1) l2 c2]) Q H:=by
 rw [kZ (by omega),kZ (by omega)];refine tq hs hm hm hl DI CI fun H' g1 g2 g3=>h H' (g1.congr fun i _ _=>?_) g2 g3;rw [So h0,So h2]
end
theorem Up.fresh {F F':aB}{H H2 H3:ae} (hf:Fr [] H H2) (hu:Up F H2 F' H3) (hF:∀ b∈F,H.size<=b):Fr [] H H3∧∀ b∈F',H.size<=b:=by
 refine ⟨⟨Rr hf.1 hu.1.1,fun b hb _=>?_⟩,fun b hb=>?_⟩
 ·rw [hu.1.2 b (RC hb hf.1) (fun hm=>absurd (hF b hm) (by omega)),hf.2 b hb (by simp)]
 ·rcases hu.2 b hb with h | h
  ·exact hF b h
  ·exact Rr hf.1 h
def au (l:List Int):List Value:=l.map (.int .i64)
theorem eF {l:List Int}:∀ v∈au l,dw v=true:=by
 intro v hv;simp only [au,RN] at hv;obtain ⟨i,_,rfl⟩:=hv;rfl
theorem bJ (l m:List Int):au (l++m)=au l++au m:=by simp [au]
theorem Rd.int {H:ae}{a:Option Addr}{l:Nat}{ys:List Int} (h:Rd 1 H a l (au ys)){i:Int} (h0:0<=i) (h1:i<l):∃ p,a=some p∧aj H (p.add i.toNat)=some (.int .i64 (ys.getD i.toNat 0))∧i.toNat<ys.length:=by
 have hl:=h.1;simp only [au,RZ] at hl;cases a with
 | none=>have:=h.2.1 rfl;omega
 | some p =>
  refine ⟨p,rfl,?_,by omega⟩;rw [h.2.2 p rfl i.toNat (by omega)];have hi:i.toNat<ys.length:=by omega
  simp [au,hi]
theorem Rd.len {k:Nat}{H:ae}{a:Option Addr}{l:Nat}{ys:List Value} (h:Rd k H a l ys):ys.length=l*k:=h.1
theorem Rd.fr' {F:aB}{k:Nat}{H H':ae}{a:Option Addr}{l:Nat}{ys:List Value} (h:Rd k H a l ys) (hf:Fr F H H') (hd:∀ p,a=some p->p.block∉F):Rd k H' a l ys:=by
 refine ⟨h.1,h.2.1,fun p hp i hi=>?_⟩;have h1:=h.2.2 p hp i hi;have hb:(p.add i).block=p.block:=by unfold Addr.add;split <;> rfl
 have an:p.block<H.size:=by
  have h2:i<ys.length:=by rw [h.1];exact hi
  rw [RB h2] at h1;unfold aj at h1;rw [hb] at h1;rcases Sf p.block H.size with h3 | h3
  ·exact h3
  ·simp only [Sd h3] at h1;cases h1
 rw [←h1];unfold aj;rw [hb,hf.2 _ an (hd p hp)]
theorem bZ.newMem (H:ae) (c:Nat) (e:TypeId):bZ 1 (H.push (.cells (Array.replicate c (.int .i64 0)) e)) (some ⟨H.size,0,none⟩) 0 c [] [H.size] :=
 ⟨by simp,RL _,.inr ⟨H.size,_,rfl,rfl,bW.new _ _ _,by simp,by simp⟩⟩
def bL (F G:aB):Prop:=∀ b∈F,b∉G
theorem bL.symm {F G:aB} (h:bL F G):bL G F:=fun b hb hf=>h b hf hb
theorem bL.nil_left (F:aB):bL [] F:=fun _ h=>by cases h
theorem bL.nil_right (F:aB):bL F []:=fun _ _ h=>by cases h
theorem bL.mono {F G F' G':aB} (h:bL F G) (h1:∀ b∈F',b∈F) (h2:∀ b∈G',b∈G):bL F' G':=fun b hb hg=>h b (h1 b hb) (h2 b hg)
abbrev sD (α:Type):=ae->List Value->α->aB->Prop
def zB {α:Type} (R:sD α):Prop:=∀ (H H':ae) (ys:List Value) (x:α) (F:aB),R H ys x F->(∀ b∈F,H'[b]?=H[b]?)->R H' ys x F
def Ba {α:Type} (R:sD α):Prop:=∀ (H:ae) (ys:List Value) (x:α) (F:aB),R H ys x F->∀ b∈F,b<H.size
inductive SRep {α:Type} (n:Nat) (R:sD α) (H:ae):List Value->List α->aB->Prop
 | nil:SRep n R H [] [] []
 | cons {ys xs:List Value}{x:α}{l:List α}{F G:aB}:R H ys x F->ys.length=n->SRep n R H xs l G->bL F G->SRep n R H (ys++xs) (x :: l) (F++G)
section
variable {α:Type}{n:Nat}{R:sD α}{H H':ae}
theorem SRep.length {xs:List Value}{l:List α}{F:aB} (h:SRep n R H xs l F):xs.length=l.length*n:=by
 induction h with
 | nil=>simp
 | cons h1 h2 _ _ ih=>simp only [Rz,RF,h2,ih,ST,Nat.one_mul];omega
theorem SRep.keep (hR:zB R){xs:List Value}{l:List α}{F:aB} (h:SRep n R H xs l F) (he:∀ b∈F,H'[b]?=H[b]?):SRep n R H' xs l F:=by
 induction h with
 | nil=>exact .nil
 | cons h1 h2 _ h4 ih=>exact .cons (hR _ _ _ _ _ h1 fun b hb=>he b (by simp [hb])) h2 (ih fun b hb=>he b (by simp [hb])) h4
theorem SRep.lt (hR:Ba R){xs:List Value}{l:List α}{F:aB} (h:SRep n R H xs l F):∀ b∈F,b<H.size:=by
 induction h with
 | nil=>simp
 | cons h1 h2 _ h4 ih =>
  intro b hb;rcases Rl.1 hb with hb | hb
  ·exact hR _ _ _ _ h1 b hb
  ·exact ih b hb
theorem SRep.append {xs ys:List Value}{l m:List α}{F G:aB} (h:SRep n R H xs l F) (h':SRep n R H ys m G) (hd:bL F G):SRep n R H (xs++ys) (l++m) (F++G):=by
 induction h with
 | nil=>exact h'
 | @cons zs xs x l F1 F2 h1 h2 h3 h4 ih =>
  rw [R9,R9,Sw];refine .cons h1 h2 (ih (hd.mono (fun b hb=>by simp [hb]) fun _ h=>h)) fun b hb hg=>?_;rcases Rl.1 hg with hg | hg
  ·exact h4 b hb hg
  ·exact hd b (by simp [hb]) hg
theorem SRep.one {ys:List Value}{x:α}{F:aB} (h:R H ys x F) (hn:ys.length=n):SRep n R H ys [x] F:=by
 have:=SRep.cons h hn SRep.nil (bL.nil_right F);simpa using this
theorem SRep.split {xs:List Value}{l:List α}{F:aB} (h:SRep n R H xs l F){i:Nat} (hi:i<l.length) :
  ∃ x1 ys x2 F1 G F2,xs=x1++(ys++x2)∧F=F1++(G++F2)∧x1.length=i*n∧ys.length=n∧SRep n R H x1 (l.take i) F1∧R H ys l[i] G∧SRep n R H x2 (l.drop (i+1)) F2∧bL F1 G∧bL F1 F2∧bL G F2:=by
 induction h generalizing i with
 | nil=>simp at hi
 | @cons zs xs x l F1 F2 h1 h2 h3 h4 ih =>
  cases i with
  | zero=>exact ⟨[],zs,xs,[],F1,F2,rfl,rfl,by simp,h2,.nil,h1,h3,bL.nil_left _,bL.nil_left _,h4⟩
  | succ i =>
   obtain ⟨x1,ys,x2,G1,G,G2,e1,e2,e3,e4,e5,e6,e7,e8,e9,e10⟩:=ih (i:=i) (by simpa using hi);subst e1;subst e2;refine ⟨zs++x1,ys,x2,F1++G1,G,G2,by simp,by simp,by simp [h2,e3,ST];omega,e4,?_,e6,e7,?_,?_,e10⟩
   ·exact .cons h1 h2 e5 (h4.mono (fun _ h=>h) fun b hb=>by simp [hb])
   ·intro b hb hg;rcases Rl.1 hb with hb | hb
    ·exact h4 b hb (by simp [hg])
    ·exact e8 b hb hg
   ·intro b hb hg;rcases Rl.1 hb with hb | hb
    ·exact h4 b hb (by simp [hg])
    ·exact e9 b hb hg
theorem SRep.congr {xs xs':List Value}{l l':List α}{F F':aB} (h:SRep n R H xs l F) (e1:xs=xs') (e2:l=l') (e3:F=F'):SRep n R H xs' l' F':=by subst e1;subst e2;subst e3;exact h
def fH (n:Nat) (R:sD α) (H:ae) (a:Option Addr) (l c:Nat) (zs:List α) (F:aB):Prop :=
 ∃ xs F1 F2,bZ n H a l c xs F1∧SRep n R H xs zs F2∧bL F1 F2∧F=F1++F2∧l=zs.length
theorem fH.nil:fH n R H none 0 0 [] []:=⟨[],[],[],bZ.nil n H,.nil,bL.nil_left _,rfl,rfl⟩
theorem fH.len {a:Option Addr}{l c:Nat}{zs:List α}{F:aB} (h:fH n R H a l c zs F):l=zs.length:=by obtain ⟨_,_,_,_,_,_,_,h⟩:=h;exact h
theorem fH.keep (hR:zB R){a:Option Addr}{l c:Nat}{zs:List α}{F:aB} (h:fH n R H a l c zs F) (he:∀ b∈F,H'[b]?=H[b]?):fH n R H' a l c zs F:=by
 obtain ⟨xs,F1,F2,h1,h2,h3,rfl,h5⟩:=h;exact ⟨xs,F1,F2,h1.keep (fun b hb=>he b (Rl.2 (.inl hb))),h2.keep hR (fun b hb=>he b (Rl.2 (.inr hb))),h3,rfl,h5⟩
theorem fH.lt (hR:Ba R){a:Option Addr}{l c:Nat}{zs:List α}{F:aB} (h:fH n R H a l c zs F):∀ b∈F,b<H.size:=by
 obtain ⟨xs,F1,F2,h1,h2,h3,rfl,h5⟩:=h;intro b hb;rcases Rl.1 hb with hb | hb
 ·exact h1.lt b hb
 ·exact h2.lt hR b hb
theorem fH.fr (hR:zB R) (hL:Ba R){a:Option Addr}{l c:Nat}{zs:List α}{F G:aB} (h:fH n R H a l c zs F) (hf:Fr G H H') (hd:bL F G):fH n R H' a l c zs F :=
 h.keep hR fun b hb=>hf.2 b (h.lt hL b hb) (hd b hb)
theorem fH.get {a:Option Addr}{l c:Nat}{zs:List α}{F:aB} (h:fH n R H a l c zs F){i:Nat} (hi:i<zs.length) :
  ∃ p ys G,a=some p∧p.spot=none∧p.off=0∧(∀ j,j<n->aj H ⟨p.block,i*n+j,none⟩=ys[j]?)∧ys.length=n∧R H ys zs[i] G∧(∀ b∈G,b∈F):=by
 obtain ⟨xs,F1,F2,h1,h2,h3,rfl,h5⟩:=h;obtain ⟨x1,ys,x2,G1,G,G2,e1,e2,e3,e4,e5,e6,e7,e8,e9,e10⟩:=h2.split hi;have hl:=h1.1;have an:i*n+n<=l*n:=by rw [h5,←Nat.succ_mul];exact SV n hi
 rcases h1.2.2 with ⟨rfl,hc,_⟩ | ⟨b,cs,rfl,rfl,hb,hs,ht⟩
 ·have CI:=h1.2.1;subst hc
  have:l=0:=by omega
  omega
 ·refine ⟨_,ys,G,rfl,rfl,rfl,fun j hj=>?_,e4,e6,fun b hb=>by simp [e2,hb]⟩
  have:=(h1.rd).2.2 _ rfl (i*n+j) (by omega);rw [ak,Rm] at this;rw [this,e1,Te (by omega),Si (by omega),e3]
  congr 1
  omega
theorem SRep.updIn (hR:zB R){xs:List Value}{l:List α}{F:aB} (h:SRep n R H xs l F){i:Nat} (hi:i<l.length) :
  ∃ x1 ys x2 G,xs=x1++(ys++x2)∧x1.length=i*n∧ys.length=n∧R H ys l[i] G∧(∀ b∈G,b∈F) ∧
   ∀ H' ys' z',ys'.length=n->R H' ys' z' G->(∀ b∈F,b∉G->H'[b]?=H[b]?)->SRep n R H' (x1++(ys'++x2)) (l.set i z') F:=by
 obtain ⟨x1,ys,x2,F1,G,F2,e1,e2,e3,e4,e5,e6,e7,e8,e9,e10⟩:=h.split hi;refine ⟨x1,ys,x2,G,e1,e3,e4,e6,fun b hb=>by simp [e2,hb],fun H' ys' z' hn hz hk=>?_⟩;have h1:SRep n R H' x1 (l.take i) F1:=e5.keep hR fun b hb=>hk b (by simp [e2,hb]) (e8 b hb);have h2:SRep n R H' x2 (l.drop (i+1)) F2:=e7.keep hR fun b hb=>hk b (by simp [e2,hb]) fun hg=>e10 b hg hb;have h3:=h1.append (SRep.cons hz hn h2 e10) fun b hb hg=>by
  rcases Rl.1 hg with hg | hg
  ·exact e8 b hb hg
  ·exact e9 b hb hg
 refine h3.congr rfl ?_ e2.symm;rw [List.set_eq_take_append_cons_drop,Rj hi]
theorem fH.updIn (hR:zB R) (hL:Ba R){a:Option Addr}{l c:Nat}{zs:List α}{F:aB} (h:fH n R H a l c zs F){i:Nat} (hi:i<zs.length) :
  ∃ p ys G,a=some p∧p.spot=none∧p.off=0∧(∀ j,j<n->aj H ⟨p.block,i*n+j,none⟩=ys[j]?)∧ys.length=n∧R H ys zs[i] G∧(∀ b∈G,b∈F) ∧
   ∀ H' z',R H' ys z' G->(∀ b∈F,b∉G->H'[b]?=H[b]?)->fH n R H' a l c (zs.set i z') F:=by
 have an:=h.lt hL;obtain ⟨p,ys0,G0,g1,g2,g3,g4,g5,g6,g7⟩:=h.get hi;obtain ⟨xs,F1,F2,h1,h2,h3,rfl,h5⟩:=h;obtain ⟨x1,ys,x2,G,e1,e2,e3,e4,e5,e6⟩:=h2.updIn hR hi;have HQ:ys=ys0:=by
  apply SH (by rw [e3,g5]);intro j Fn C7;have hj:j<n:=by omega
  have h6:=g4 j hj;have CI:i*n+j<l*n:=by
   have h7:i*n+n<=l*n:=by rw [h5,←Nat.succ_mul];exact SV n hi
   omega
  have:=(h1.rd).2.2 p g1 (i*n+j) CI;obtain ⟨pb,po,ps⟩:=p;simp only at g2 g3 h6;subst g2;subst g3;rw [ak,Rm] at this;rw [this,e1,Te (by omega),Si (by omega),e2] at h6;rw [show i*n+j-i*n=j by omega,RB Fn,RB C7] at h6;exact Option.some.inj h6
 refine ⟨p,ys,G,g1,g2,g3,by rw [HQ];exact g4,e3,e4,fun b hb=>by simp [e5 b hb],fun H' z' hz hk=>?_⟩;refine ⟨xs,F1,F2,h1.keep fun b hb=>hk b (by simp [hb]) fun hg=>h3 b hb (e5 b hg),?_,h3,rfl,by simpa using h5⟩;rw [e1];exact e6 H' ys z' e3 hz fun b hb hn=>hk b (by simp [hb]) hn
theorem fH.snoc {P:Program}{T T' T0 bs:Nat}{z:Value} (hR:zB R) (hL:Ba R){a:Option Addr}{l c:Nat}{zs:List α}{F G:aB}{ys:Array Value}{e:TypeId}{x:α}{Q:Value->ae->Prop}
  (hs:aY P T=some (n,bs,some z)) (hz:z.cells.size=n) (hT:ku P T'=true) (h:fH n R H a l c zs F) (hx:R H ys.toList x G) (hn:ys.size=n) (hd:bL F G) (C6:∀ v∈ys.toList,dw v=true) (hl:l<274877906944) (E6:bs<=128) (DH:bs≠0)
  (hq:∀ a' c' F' H',fH n R H' a' (l+1) c' (zs++[x]) F'->Fr F H H'->(∀ b∈F',b∈F∨b∈G∨H.size<=b)->Q (.slice a' (l+1) c') H') :
  cc P (Builtin.append_ #[T,T'] T0 #[.slice a l c,.slice (some ⟨H.size,0,none⟩) 1 1]) Q (H.push (.cells ys e)):=by
 obtain ⟨xs,F1,F2,h1,h2,h3,rfl,h5⟩:=h;refine bD hs hz hT h1 hn C6 hl E6 DH fun a' c' F' H' g1 g2 g3=>?_;have ap:=h2.lt hL;have I9:=hL _ _ _ _ hx;have hk:∀ b∈F2++G,H'[b]?=H[b]?:=by
  intro b hb;rcases Rl.1 hb with hb | hb
  ·exact g2.1.2 b (ap b hb) fun hm=>h3 b hm hb
  ·exact g2.1.2 b (I9 b hb) fun hm=>hd b (by simp [hm]) hb
 refine hq a' c' (F'++(F2++G)) H' ⟨xs++ys.toList,F',F2++G,g1,?_,fun b hb Hh=>?_,rfl,by simp [h5]⟩ (g2.1.mono fun b hb=>by simp [hb]) fun b hb=>?_
 ·refine (h2.keep hR fun b hb=>hk b (by simp [hb])).append (SRep.one (hR _ _ _ _ _ hx fun b hb=>hk b (by simp [hb])) (by simpa using hn)) fun b hb hg=>hd b (by simp [hb]) hg
 ·rcases g2.2 b hb with h6 | h6
  ·rcases Rl.1 Hh with h7 | h7
   ·exact h3 b h6 h7
   ·exact hd b (by simp [h6]) h7
  ·rcases Rl.1 Hh with h7 | h7
   ·have:=ap b h7;omega
   ·have:=I9 b h7;omega
 ·rcases Rl.1 hb with h6 | h6
  ·rcases g2.2 b h6 with h7 | h7
   ·exact .inl (by simp [h7])
   ·exact .inr (.inr h7)
  ·rcases Rl.1 h6 with h7 | h7
   ·exact .inl (by simp [h7])
   ·exact .inr (.inl h7)
end
end Kw
namespace Kw
section
open Go Go.Proofs Go.Shelf Go.RowKit
variable {P:Program}
theorem gO (w:World) (a:Addr) (v:Value):(w.setCell a v).heap=bc w.heap a v:=rfl
def kq (T:TypeId) (H:ae) (b:Nat) (s:Value):Prop:=∃ p,H[b]?=some (.cells #[p,s] T (0,0))∧(p=.pointer none∨p=.pointer (some ⟨b,0,none⟩))
theorem kq.lt {T:TypeId}{H:ae}{b:Nat}{s:Value} (h:kq T H b s):b<H.size:=by
 obtain ⟨p,h,_⟩:=h;exact (Rt.1 h).1
theorem kq.keep {T:TypeId}{H H':ae}{b:Nat}{s:Value} (h:kq T H b s) (e:H'[b]?=H[b]?):kq T H' b s:=by
 obtain ⟨p,h,h2⟩:=h;exact ⟨p,e.trans h,h2⟩
theorem kS {ρ:Ren} (L:Lays.n240 P ρ) (X:Builder.X72 P ρ) (hfn:∃ fn,P.funcs[ρ.f 240]?=some fn∧fn.body.isSome=true){H:ae}{b:Nat}{s:Value}{Q:Value->ae->Prop} (hb:kq (ρ.t 72) H b s)
  (h:∀ H',kq (ρ.t 72) H' b s->Fr [b] H H'->H'.size=H.size->Q (.tuple #[]) H'):ag P (ρ.f 240) #[.pointer (some ⟨b,0,none⟩)] Q H:=by
 obtain ⟨p,hb,hp⟩:=hb;refine ⟨hfn,fun w hw=>?_⟩;subst hw;have Dn:w.shape? b=some ((ρ.t 72),2):=by simp [World.shape?,hb]
 have hfz:w.frozen? ⟨b,0,none⟩=false:=by simp [World.frozen?,hb]
 have hc:w.cell? ⟨b,0,none⟩=some p:=by simp [World.cell?,hb]
 rcases hp with rfl | rfl
 ·refine (Any.Builder_copyCheck_fresh L X b w hc Dn hfz).mono ?_;rintro e w' ⟨rfl,rfl⟩;have hl:=(Rt.1 hb).1;have hz:(w.setCell ⟨b,0,none⟩ (.pointer (some ⟨b,0,none⟩))).heap.size=w.heap.size:=by rw [gO,d6]
  have c9:∀ y,y≠b->(w.setCell ⟨b,0,none⟩ (.pointer (some ⟨b,0,none⟩))).heap[y]?=w.heap[y]?:=fun y hy=>by rw [gO,cV hy]
  refine ⟨_,rfl,h _ ⟨_,?_,.inr rfl⟩ ⟨Nat.le_of_eq hz.symm,fun y _ hy=>c9 y (by simpa using hy)⟩ hz,rfl,rfl,rfl,Rw _,Nat.le_of_eq hz.symm,fun y ds hy=>?_⟩
  ·rw [gO];simp [bc,R1,hb]
  ·rw [c9 y (fun e=>by subst e;rw [hb] at hy;cases hy)];exact hy
 ·refine (Any.Builder_copyCheck_used L X b w hc).mono ?_;rintro e w' ⟨rfl,rfl⟩;exact ⟨_,rfl,h _ ⟨_,hb,.inr rfl⟩ (Fr.refl _ _) rfl,rfl,rfl,rfl,Rw _,Rw _,fun y ds hy=>hy⟩
def vk (e:TypeId) (H:ae) (a:Option Addr) (l c:Nat) (xs:List Value) (G:aB):Prop:=bZ 1 H a l c xs G∧(∀ b∈G,∃ cs,H[b]?=some (.cells cs e (0,0)))∧c<=maxLen
theorem vk.keep {e:TypeId}{H H':ae}{a:Option Addr}{l c:Nat}{xs:List Value}{G:aB} (h:vk e H a l c xs G) (he:∀ b∈G,H'[b]?=H[b]?):vk e H' a l c xs G:=⟨h.1.keep he,fun b hb=>by
 obtain ⟨cs,h2⟩:=h.2.1 b hb;exact ⟨cs,(he b hb).trans h2⟩,h.2.2⟩
theorem mM {ts:Array TypeId}{ty e:TypeId}{H:ae}{a:Option Addr}{l c:Nat}{xs:List Value}{G:aB}{Q:Value->ae->Prop} (LS:P.underlying ty=some (.pointer e)) (ho:bZ 1 H a l c xs G) (h0:l≠0->Q (.pointer a) H) (h1:l=0->∀ p H',Fr [] H H'->Q (.pointer p) H') :
  cc P (Builtin.unsafeSliceData_ ts ty #[.slice a l c]) Q H:=by
 have HU:=ho.2.1;rcases ho.2.2 with ⟨rfl,CO,rfl⟩ | ⟨b,cs,rfl,rfl,⟨t,hB⟩,_⟩
 ·show Q (.pointer none) H;by_cases hl:l=0
  ·exact h1 hl _ _ (Fr.refl _ _)
  ·exact h0 hl
 ·show cc P (if c≠0 then pure (.pointer (some ⟨b,0,none⟩)) else _) Q H;by_cases hc:c=0
  ·rw [Re (by simpa using hc)];refine ay ?_;have hs:iq H b=some (t,cs.size):=by simp [iq,hB]
   unfold viewAt;refine ay ?_;show cc P (.shape b fun r=>.pure r) _ H;unfold cc;rw [hs];simp only [Tk,if_true];show cc P (if false=true then pure _ else _) Q H;rw [Re (by simp)];refine ay (ay ?_);refine bu LS ?_;exact h1 (by omega) _ _ (Fr.push _ _ _)
  ·rw [Rj hc];show Q (.pointer (some ⟨b,0,none⟩)) H;by_cases hl:l=0
   ·exact h1 hl _ _ (Fr.refl _ _)
   ·exact h0 hl
theorem iU {H:ae}:∀ (l:List UInt8) (a:Addr) (acc:ByteArray){Q:ByteArray->ae->Prop},(∀ j x,l[j]?=some x->aj H (a.add j)=some (.int .u8 x.toNat))->Q ⟨acc.data++l.toArray⟩ H->cc P (loadBytes a acc l.length) Q H
 | [],a,acc,Q,_,h=>by
  show Q acc H;simpa using h
 | x :: l,a,acc,Q,hc,h=>by
  show cc P (do
   match ← load a with
   | .int .u8 b=>loadBytes (a.add 1) (acc.push b.toNat.toUInt8) l.length
   | _ => stuck "a byte variable that holds no byte") Q H
  have h0:=hc 0 x rfl;rw [Addr.add_zero'] at h0;refine ay ?_;show ∃ v,aj H a=some v∧_;refine ⟨_,h0,?_⟩;show cc P (loadBytes (a.add 1) (acc.push ((x.toNat:Int).toNat.toUInt8)) l.length) Q H;have hx:(x.toNat:Int).toNat.toUInt8=x:=by simp
  rw [hx];refine iU l _ _ (fun j y hy=>?_) ?_
  ·rw [Addr.add_add]
   have:=hc (j+1) y (by simpa using hy);rw [Nat.add_comm j 1] at this;exact this
  ·have e:(acc.push x).data++l.toArray=acc.data++(x :: l).toArray:=by
    show acc.data.push x++l.toArray=_;rw [Array.push_eq_append,Array.append_assoc];simp
   rw [e];exact h
theorem rb {pt it ty e:TypeId} (hp:P.underlying pt=some (.pointer e)) (hc:P.cellsOf e=1){H:ae}{a:Option Addr}{l c:Nat}{y:ByteArray}{G:aB}{Q:Value->ae->Prop} (hB:vk e H a l c (y.data.toList.map fun u=>.int .u8 u.toNat) G){p:Option Addr} (GB:l≠0->p=a)
  (h:∀ H',Fr G H H'->Q (.string y) H'):cc P (Builtin.unsafeString_ #[pt,it] ty #[.pointer p,.int .i64 (l:Int)]) Q H:=by
 have b8:y.data.toList.length=l:=by have:=hB.1.1;simpa using this
 have hm:=hB.2.2;have HU:=hB.1.2.1;have Fo:¬ ((l:Int)<0):=by omega
 have E7:¬ ((l:Int) > IntKind.i64.max):=by
  rw [show IntKind.i64.max=9223372036854775807 from rfl];unfold maxLen at hm;omega
 have h0:l=0->y=ByteArray.empty:=fun hl=>by
  have:y.data.toList=[]:=RM (by omega);cases y with
  | mk d =>
   have hd:d=#[]:=Array.toList_eq_nil_iff.1 this;subst hd;rfl
 have LU:∀ q,Builtin.unsafeString_ #[pt,it] ty #[.pointer q,.int .i64 (l:Int)]=(do
   let n ← asInt (.int .i64 (l:Int))
   if n < 0 then runtimePanic (.error "unsafe.String: len out of range")
   if n > IntKind.i64.max then unsupported (.unsafePointer "String: a length above the largest int")
   match q with
   | none => if n = 0 then pure (.string .empty) else runtimePanic (.error "unsafe.String: ptr is nil and len is not zero")
   | some a =>
    if n=0 then pure (.string .empty)
    else if ← variablesAt a (← elemOf pt) n.toNat then do
     let s ← loadBytes a .empty n.toNat
     freeze a n.toNat
     pure (.string s)
    else unsupported (.unsafePointer "String: not so many bytes at ptr")) := fun _ => rfl
 rw [LU];refine ay ?_;show cc P (if (l:Int)<0 then _ else _) Q H;rw [Re Fo];show cc P (if (l:Int) > IntKind.i64.max then _ else _) Q H;rw [Re E7];by_cases hl:l=0
 ·have e0:=h0 hl;subst hl;cases p with
  | none =>
   show cc P (if ((0:Nat):Int)=0 then pure (.string .empty) else _) Q H;rw [Rj (show ((0:Nat):Int)=0 from rfl)];rw [←e0];exact h H (Fr.refl _ _)
  | some q =>
   show cc P (if ((0:Nat):Int)=0 then pure (.string .empty) else _) Q H;rw [Rj (show ((0:Nat):Int)=0 from rfl)];rw [←e0];exact h H (Fr.refl _ _)
 ·have LV:=GB hl;subst LV;rcases hB.1.2.2 with ⟨rfl,CO,rfl⟩ | ⟨b,cs,rfl,rfl,E8,s5,lp⟩
  ·omega
  ·obtain ⟨cs2,hg⟩:=hB.2.1 b (by simp);have C1:cs2=cs:=by
    obtain ⟨t,tw⟩:=E8;rw [hg] at tw;simp only [Option.some.injEq,Obj.cells.injEq] at tw;exact tw.1
   subst C1;show cc P (if (l:Int)=0 then pure (.string .empty) else _) Q H;rw [Re (by omega)];refine ay ?_;unfold elemOf;refine ay (bu hp ?_);show cc P (pure e) _ H;refine dQ ?_;refine ay ?_;have hs:iq H b=some (e,cs2.size):=by simp [iq,hg]
   show cc P (.program fun q=>.shape b fun r=>_) _ H;show cc P (match iq H b with | some (e',cells)=>pure (liesAt P P.depth e' (cells / P.cellsOf e') 0 e ((l:Int).toNat)) | none=>pure false) _ H;rw [hs];dsimp only;refine dQ ?_;have Ja:=Lib.liesAt_bytes (P:=P) hc (cs2.size / P.cellsOf e) l (by rw [hc];simp;omega);rw [Ro,Ja,Rj rfl];refine ay ?_;have al:∀ j x,y.data.toList[j]?=some x->aj H ((⟨b,0,none⟩:Addr).add j)=some (.int .u8 x.toNat):=fun j x hx=>by
    have hj:j<l*1:=by
     have:=(List.getElem?_eq_some_iff.1 hx).1;omega
    rw [hB.1.rd.2.2 _ rfl j hj,Sq,hx];rfl
   have:=iU (P:=P) (H:=H) y.data.toList ⟨b,0,none⟩ .empty (Q:=fun s H'=>cc P (do freeze ⟨b,0,none⟩ l;pure (Value.string s)) Q H') al (by
    refine ay ?_;show Q (.string _) (dJ H ⟨b,0,none⟩ l);have ey:(⟨ByteArray.empty.data++y.data.toList.toArray⟩:ByteArray)=y:=by
     cases y with
     | mk d =>
      show (⟨#[]++d.toList.toArray⟩:ByteArray)=⟨d⟩;simp
    rw [ey];refine h _ ⟨?_,fun x hx hn=>?_⟩
    ·unfold dJ;split <;> simp
    ·have Pi:x≠b:=by simpa using hn
     unfold dJ;split
     ·rfl
     ·simp [R1,S4 Pi])
   rw [b8] at this;exact this
end
section
open Go Go.Proofs Go.Shelf Go.RowKit
variable {P:Program}
def dD (s:ByteArray):List Value:=s.data.toList.map fun u=>.int .u8 (u.toNat:Int)
theorem lz (s:ByteArray):(dD s).length=s.size:=by simp [dD]
theorem qI {s:ByteArray}:∀ v∈dD s,dw v=true:=by
 intro v hv;simp only [dD,RN] at hv;obtain ⟨i,_,rfl⟩:=hv;rfl
theorem mO (x y:ByteArray):dD (x++y)=dD x++dD y:=by simp [dD]
theorem ib {s:ByteArray}{H:ae}{Q:Array Value->ae->Prop} (h:Q (dD s).toArray H):cc P (Builtin.firstCells 1 s.size (.string s)) Q H:=by
 show Q ((s.extract 0 s.size).data.map fun b=>.int .u8 b.toNat) H;have e:((s.extract 0 s.size).data.map fun b=>Value.int .u8 (b.toNat:Int))=(dD s).toArray:=by
  have:s.extract 0 s.size=s:=by simp
  rw [this];unfold dD;apply Array.ext' ;simp
 rw [e];exact h
theorem mR {T T' T0:Nat}{H:ae}{a:Option Addr}{l c:Nat}{xs:List Value}{s:ByteArray}{e:TypeId}{i:TypeInfo}{z:Value}{F:aB}{Q:Value->ae->Prop} (hu:P.underlying T=some (.slice e)) (hi:P.info? e=some i) (hk:i.size=1) (hb:i.bytes=1) (ES:i.zero=some z) (hz:z.cells.size=1) (hT:P.underlying T'=some .string)
  (ho:vk e H a l c xs F) (hl:l<4611686018427) (hs:s.size<4611686018427)
  (h:∀ a' c' F' H',vk e H' a' (l+s.size) c' (xs++dD s) F'->Up F H F' H'->Q (.slice a' (l+s.size) c') H') :
  cc P (Builtin.append_ #[T,T'] T0 #[.slice a l c,.string s]) Q H:=by
 obtain ⟨hO,LS,Oc⟩:=ho;have s6:=lz s;show cc P (do
  let .slice elem ← underlying T | stuck "append: slice type expected"
  _) Q H
 refine ay (bu hu ?_);refine ay (gF hi ?_);rw [hk];refine ay (ay (bu hT ?_));simp only [pure,List.getElem_toArray,Tn,SO];refine ay (dQ ?_);simp only [RY,if_false,Rp,if_true];refine ay (show cc P (Builtin.lenOf (.string s)) _ H from ?_);refine dQ ?_;have D6:xs.length=l:=by have:=hO.1;omega
 by_cases Df:l+s.size<=c
 ·simp only [Df,if_true];refine ay (ib ?_);rcases hO.2.2 with ⟨rfl,CO,rfl⟩ | ⟨b,cs,rfl,rfl,E8,s5,lp⟩
  ·have Gh:l=0:=by omega
   have Od:s.size=0:=by omega
   have Da:dD s=[]:=RM (by rw [s6];exact Od);have HR:xs=[]:=RM (by omega);subst HR;refine h none c [] H ⟨⟨by rw [Da,Od,Gh];rfl,Df,.inl ⟨rfl,CO,rfl⟩⟩,by simp,Oc⟩ (Up.refl _ _)
  ·obtain ⟨cs2,hB⟩:=LS b (by simp);have C1:cs2=cs:=by
    obtain ⟨t,tw⟩:=E8;rw [hB] at tw;simp only [Option.some.injEq,Obj.cells.injEq] at tw;exact tw.1
   subst C1;dsimp only;rw [ak,Rm];refine ay ?_;have Fj:l*1+0+(dD s).length<=cs2.size:=by rw [s6];omega
   refine dS (dD s) (l*1) 0 cs2 qI hB Fj fun H' g1 g2 g3=>?_;refine h _ _ [b] H' ⟨⟨by rw [Rz,s6];omega,Df,.inr ⟨b,_,rfl,rfl,⟨e,g1⟩,?_,?_⟩⟩,fun b' er=>?_,Oc⟩ ⟨⟨by omega,fun b' _ hn=>g3 b' (by simpa using hn)⟩,fun b' er=>.inl er⟩
   ·simp only [eI,RX,Rz,R5,Tp,Array.length_toList];omega
   ·simp only [eI,TN];rw [lp,Sn (by rw [Rz,s6];omega)];exact RJ (by rw [Rz,s6];omega)
   ·simp at er;subst er;exact ⟨_,g1⟩
 ·simp only [Df,if_false];have Fk:¬ (((l+s.size:Nat):Int) > IntKind.i64.max∧(False∨i.bytes=0)):=by
   rintro ⟨_,h | h⟩
   ·exact h
   ·rw [hb] at h;cases h
  refine ay (cN hi ?_);simp only [Fk,if_false];refine ay (cN hi ?_);have GA:¬ Builtin.nextslicecap (l+s.size) c*i.bytes > 2 ^ 48:=by
   rw [hb]
   have:=fB (need:=l+s.size) (c:=c) (by omega);omega
  simp only [GA,if_false];refine ay ?_;simp only [choose,cc,Question.forced,RY,if_false];intro t;have Fm:l+s.size<=Question.cut (.appendCap (l+s.size) c e) t:=by simp only [Question.cut];omega
  have Hk:Question.cut (.appendCap (l+s.size) c e) t<=maxLen:=by
   simp only [Question.cut,maxLen]
   have:=Nat.mod_lt t (show 0<2 ^ 63-(l+s.size) by omega);omega
  generalize Question.cut (.appendCap (l+s.size) c e) t=cap' at Fm Hk;refine ay (cN hi ?_);refine ay (iv ?_);refine ay (dP (hO.rd) (Rw _) ?_);refine ay (ib ?_);refine ay (eb hi ES ?_);rw [show xs.take (l*1)=xs from RJ (by omega)];simp only [newRow,newObj,bind,Sem.bind,pure,cc];refine h _ _ [H.size] _ ⟨⟨by rw [Rz,s6];omega,Fm,.inr ⟨H.size,_,rfl,rfl,bW.new _ _ _,?_,?_⟩⟩,fun b' er=>?_,Hk⟩ ⟨Fr.push _ _ _,fun b' er=>?_⟩
  ·simp only [S8,RX,Builtin.zeroCells,Array.size_map,Array.size_range,hz];rw [s6];omega
  ·simp only [Array.toList_append,R9];rw [←R9,Sn (by rw [Rz,s6];omega)];exact RJ (by rw [Rz,s6];omega)
  ·simp at er;subst er;exact ⟨_,by simp;rfl⟩
  ·simp at er;exact .inr (by omega)
theorem rl {ρ:Ren} (L:Lays.n156 P ρ) (X:Builder.Extra P ρ) (hfn:∃ fn,P.funcs[ρ.f 156]?=some fn∧fn.body.isSome=true){a:Option Addr}{l c:Nat}{xs:List ByteArray}{sep:ByteArray}{G:aB}{H:ae}{Q:Value->ae->Prop} (ho:bZ 1 H a l c (xs.map .string) G) (ha:a≠none) (hl:l<=1000000000)
  (b8:(Lib.join (xs.map (·.data.toList)) sep.data.toList).length<=140737488355328) (h:∀ H',Fr [] H H'->Q (.string ⟨(Lib.join (xs.map (·.data.toList)) sep.data.toList).toArray⟩) H'):ag P (ρ.f 156) #[.slice a l c,.string sep] Q H:=by
 have Jb:xs.length=l:=by have:=ho.1;simpa using this
 rcases ho.2.2 with ⟨rfl,_,_⟩ | ⟨b,cs,rfl,rfl,hB,s5,lp⟩
 ·exact absurd rfl ha
 ·subst Jb;refine kL hfn (fun w hw=>?_) h;subst hw;refine Any.strings_Join L X b 0 c xs sep w (fun j x hj=>?_) hB.lt (by omega) ho.2.1 b8;have Jc:=(List.getElem?_eq_some_iff.1 hj).1;have h1:=ho.rd.2.2 _ rfl j (by omega);rw [ak,Sq,hj] at h1;exact h1
end
end Kw
namespace Kw
open Go
def bF (l:List ByteArray):List Value:=l.map .string
theorem dY (l m:List ByteArray):bF (l++m)=bF l++bF m:=by simp [bF]
theorem Rd.str {H:ae}{a:Option Addr}{l:Nat}{ys:List ByteArray} (h:Rd 1 H a l (bF ys)){i:Int} (h0:0<=i) (h1:i<l):∃ p,∃ an:i.toNat<ys.length,a=some p∧aj H (p.add i.toNat)=some (.string ys[i.toNat]):=by
 have hl:=h.1;simp only [bF,RZ] at hl;cases a with
 | none=>have:=h.2.1 rfl;omega
 | some p =>
  have hi:i.toNat<ys.length:=by omega
  refine ⟨p,hi,rfl,?_⟩;rw [h.2.2 p rfl i.toNat (by omega)];simp [bF,hi]
structure TB where
 most:Int
 texts:List ByteArray
def cJ (s:ByteArray):Prop:=1<=s.size∧s.size<=96
instance (s:ByteArray):Decidable (cJ s):=inferInstanceAs (Decidable (_∧_))
structure WFT (t:TB):Prop where
 m0:0<=t.most
 m1:t.most<=4096
 len:(t.texts.length:Int)<=t.most
 nodup:t.texts.Nodup
 good:∀ s∈t.texts,cJ s
def cL:List ByteArray->ByteArray->Option Nat
 | [],_=>none
 | x :: l,s=>if x=s then some 0 else (cL l s).map (·+1)
theorem qT {l:List ByteArray}{s:ByteArray}{n:Nat} (hn:n<l.length) (h1:l[n]=s) (h2:∀ j (hj:j<l.length),j<n->l[j]≠s):cL l s=some n:=by
 induction l generalizing n with
 | nil=>simp at hn
 | cons x l ih =>
  unfold cL;cases n with
  | zero=>simp only [SO] at h1;rw [Rj h1]
  | succ n =>
   have h3:=h2 0 (by simp) (by omega);simp only [SO] at h3;rw [Re h3,ih (n:=n) (by simpa using hn) (by simpa using h1) fun j hj Jd=>h2 (j+1) (by simpa using hj) (by omega)];rfl
theorem gN {l:List ByteArray}{s:ByteArray}:cL l s=none↔s∉l:=by
 induction l with
 | nil=>simp [cL]
 | cons x l ih =>
  unfold cL;by_cases h:x=s
  ·simp [h]
  ·rw [Re h];simp only [Option.map_eq_none_iff,ih,Rk,Ta];exact ⟨fun h1=>⟨fun e=>h e.symm,h1⟩,fun h1=>h1.2⟩
theorem ox {l:List ByteArray}{s x:ByteArray}:cL (l++[s]) x=match cL l x with
  | some n=>some n
  | none=>if s=x then some l.length else none:=by
 induction l with
 | nil=>simp [cL]
 | cons y l ih =>
  simp only [Sw,cL];by_cases h:y=x
  ·simp [h]
  ·rw [Re h,Re h,ih];cases cL l x with
   | some n=>rfl
   | none =>
    simp only [S1];by_cases h2:s=x <;> simp [h2]
def TB.add (t:TB) (s:ByteArray):(Int × Int) × TB :=
 if ¬ cJ s then ((0,61),t) else match cL t.texts s with
 | some n=>(((n:Int),0),t)
 | none=>if t.most<=(t.texts.length:Int) then ((0,60),t) else (((t.texts.length:Int),0),{ t with texts:=t.texts++[s] })
theorem iN {t:TB} (h:WFT t) (s:ByteArray):WFT (t.add s).2:=by
 unfold TB.add;split
 ·exact h
 ·rename_i hg;have hg:cJ s:=RE hg;cases hn:cL t.texts s with
  | some n=>exact h
  | none =>
   simp only;split
   ·exact h
   ·refine { h with len:=by simp;omega,nodup:=?_,good:=fun x hx=>?_ }
    ·rw [SC];exact ⟨h.nodup,by simp,fun a ha b hb e=>gN.1 hn (by simp only [Rg] at hb;rw [←hb,←e];exact ha)⟩
    ·rcases Rl.1 hx with hx | hx
     ·exact h.good x hx
     ·simp only [Rg] at hx;rw [hx];exact hg
end Kw
namespace Kw
section
open Go Go.Proofs Go.Shelf Go.RowKit Go.Sort
variable {P:Program}
theorem rG {ρ:Ren} (L:LaysM.n171 P ρ) (hfn:∃ fn,P.funcs[ρ.f 171]?=some fn∧fn.body.isSome=true){n:Int} (h0:-9223372036854775808<=n) (h1:n<=9223372036854775807){H:ae}{Q:Value->ae->Prop}
  (ht : ∀ w : World, w.heap = H -> Lib.TabIs P w "internal/strconv.uint64pow10" .u64 Lib.pow10Tab) (h : ∀ H', Fr [] H H' -> Q (.string ⟨(Lib.itoa n).toArray⟩) H') : ag P (ρ.f 171) #[.int .i64 n] Q H := by
 refine kL hfn (fun w hw=>(Any.strconv_Itoa L n h0 h1 w (ht w hw)).mono ?_) h;rintro e w' ⟨rfl,k,os,rfl⟩;refine ⟨rfl,⟨rfl,rfl,rfl,?_,fun b hb=>?_⟩⟩
 ·show w.heap.size<=(w.heap++os).size;rw [S8];exact TO _ _
 ·show (w.heap++os)[b]?=w.heap[b]?;rw [Sy hb]
theorem rA:∀ (k u:Nat),u<10 ^ (k+1)->(Lib.decDigits u).length<=k+1
 | 0,u,h=>by rw [Lib.decDigits,dif_pos (by simpa using h)];simp
 | k+1,u,h=>by
  rw [Lib.decDigits];split
  ·simp
  ·have:=rA k (u / 10) (by rw [Nat.pow_succ] at h;omega);rw [Rz];simp only [RF,RV];omega
theorem uf {n:Int} (h0:-1073741824<=n) (h1:n<=1073741823):(Lib.itoa n).length<=11:=by
 unfold Lib.itoa;split
 ·have:=rA 9 n.natAbs (by omega);simp only [RF];omega
 ·have:=rA 9 n.toNat (by omega);omega
end
end Kw
namespace Kw
open Go
theorem kY {α:Type}{p:List α->Prop} (h0:p []) (h1:∀ l x,p l->p (l++[x])) (l:List α):p l:=by
 have:∀ m:List α,p m.reverse:=fun m=>by
  induction m with
  | nil=>exact h0
  | cons x m ih=>rw [List.reverse_cons];exact h1 _ _ ih
 have:=this l.reverse
 rwa [List.reverse_reverse] at this
def vt (n:Int):ByteArray:=⟨(Lib.itoa n).toArray⟩
theorem fw {n:Int} (h0:-1073741824<=n) (h1:n<=1073741823):(vt n).size<=11:=by
 have:=uf h0 h1;show (Lib.itoa n).toArray.size<=11;simpa using this
abbrev xP:ByteArray:=⟨#[110,105,108]⟩
abbrev uT:ByteArray:=⟨#[64]⟩
abbrev tS:ByteArray:=⟨#[32]⟩
abbrev AE:ByteArray:=⟨#[10]⟩
abbrev Cs:ByteArray:=⟨#[32,61,32]⟩
abbrev A9:ByteArray:=⟨#[32,40]⟩
abbrev A8:ByteArray:=⟨#[41]⟩
abbrev Bx:ByteArray:=⟨#[109,111,114,101,10]⟩
def mI:List Int->Int->Option Nat
 | [],_=>none
 | x :: l,o=>if x=o then some 0 else (mI l o).map (·+1)
theorem uE {l:List Int}{s:Int}{n:Nat} (hn:n<l.length) (h1:l[n]=s) (h2:∀ j (hj:j<l.length),j<n->l[j]≠s):mI l s=some n:=by
 induction l generalizing n with
 | nil=>simp at hn
 | cons x l ih =>
  unfold mI;cases n with
  | zero=>simp only [SO] at h1;rw [Rj h1]
  | succ n =>
   have h3:=h2 0 (by simp) (by omega);simp only [SO] at h3;rw [Re h3,ih (n:=n) (by simpa using hn) (by simpa using h1) fun j hj Jd=>h2 (j+1) (by simpa using hj) (by omega)];rfl
theorem uy {l:List Int}{s:Int}:mI l s=none↔s∉l:=by
 induction l with
 | nil=>simp [mI]
 | cons x l ih =>
  unfold mI;by_cases h:x=s
  ·simp [h]
  ·rw [Re h];simp only [Option.map_eq_none_iff,ih,Rk,Ta];exact ⟨fun h1=>⟨fun e=>h e.symm,h1⟩,fun h1=>h1.2⟩
theorem uR {l:List Int}{s:Int}{n:Nat} (h:mI l s=some n):n<l.length:=by
 induction l generalizing n with
 | nil=>cases h
 | cons x l ih =>
  unfold mI at h;by_cases hx:x=s
  ·rw [Rj hx] at h;cases h;simp
  ·rw [Re hx] at h;cases hm:mI l s with
   | none=>rw [hm] at h;cases h
   | some m=>rw [hm] at h;cases h;have:=ih hm;simp;omega
theorem ru {l:List Int}{s x:Int}:mI (l++[s]) x=match mI l x with
  | some n=>some n
  | none=>if s=x then some l.length else none:=by
 induction l with
 | nil=>simp [mI]
 | cons y l ih =>
  simp only [Sw,mI];by_cases h:y=x
  ·simp [h]
  ·rw [Re h,Re h,ih];cases mI l x with
   | some n=>rfl
   | none =>
    simp only [S1];by_cases h2:s=x <;> simp [h2]
structure LW where
 order:List Int
 more:Bool
def LW.form (L:LW) (w:Int):ByteArray × LW :=
 if w=4 then (xP,L) else
 match mI L.order (w / 4) with
 | some i=>(uT++vt ((i:Int)+1),L)
 | none=>if 2000<=L.order.length then (uT,{ L with more:=true }) else (uT++vt ((L.order.length:Int)+1),{ L with order:=L.order++[w / 4] })
def ph (G:Int->Prop) (w:Int):Prop:=w=4∨∃ o,w=4*o∧G o
structure LW.Ok (L:LW) (G:Int->Prop):Prop where
 len:L.order.length<=2000
 all:∀ o∈L.order,G o
theorem LW.Ok.form {L:LW}{G:Int->Prop}{w:Int} (h:L.Ok G) (hw:ph G w):(L.form w).2.Ok G∧(L.form w).1.size<=12:=by
 have hl:=h.len;have hz:∀ n:Int,0<=n->n<=3000->(uT++vt n).size<=12:=fun n h0 h1=>by
  have:=fw (n:=n) (by omega) (by omega);rw [Rv];show 1+_<=12;omega
 unfold LW.form;split
 ·exact ⟨h,show xP.size<=12 by decide⟩
 rename_i h4;obtain ⟨o,rfl,ho⟩:=hw.resolve_left h4;have e:4*o / 4=o:=by omega
 rw [e];cases hp:mI L.order o with
 | some i =>
  have:=uR hp;exact ⟨h,hz _ (by omega) (by omega)⟩
 | none =>
  simp only;split
  ·exact ⟨⟨h.len,h.all⟩,show uT.size<=12 by decide⟩
  ·rename_i hl;refine ⟨⟨by simp;omega,fun x hx=>?_⟩,hz _ (by omega) (by omega)⟩;rcases Rl.1 hx with hx | hx
   ·exact h.all x hx
   ·simp only [Rg] at hx;rw [hx];exact ho
def LW.formsG (p:List ByteArray × LW) (w:Int):List ByteArray × LW:=(p.1++[(p.2.form w).1],(p.2.form w).2)
def LW.forms (L:LW) (ws:List Int):List ByteArray × LW:=ws.foldl LW.formsG ([],L)
theorem jh (L:LW) (ws:List Int) (w:Int):L.forms (ws++[w])=((L.forms ws).1++[((L.forms ws).2.form w).1],((L.forms ws).2.form w).2):=by
 unfold LW.forms;rw [TH];rfl
theorem LW.Ok.forms {L:LW}{G:Int->Prop} (h:L.Ok G) (ws:List Int):(∀ w∈ws,ph G w)->(L.forms ws).2.Ok G∧(L.forms ws).1.length=ws.length∧∀ x∈(L.forms ws).1,x.size<=12:=by
 refine kY (p:=fun ws=>(∀ w∈ws,ph G w)->(L.forms ws).2.Ok G∧(L.forms ws).1.length=ws.length∧∀ x∈(L.forms ws).1,x.size<=12) (fun _=>⟨h,rfl,by simp [LW.forms]⟩) (fun l x ih hw=>?_) ws;obtain ⟨i1,i2,i3⟩:=ih fun w hm=>hw w (by simp [hm]);obtain ⟨f1,f2⟩:=i1.form (hw x (by simp));rw [jh];refine ⟨f1,by simp [i2],fun y hy=>?_⟩;rcases Rl.1 hy with hy | hy
 ·exact i3 y hy
 ·simp only [Rg] at hy;rw [hy];exact f2
def eJ (l:List ByteArray):ByteArray:=⟨(Lib.join (l.map (·.data.toList)) tS.data.toList).toArray⟩
theorem nM:eJ []=⟨#[]⟩:=rfl
theorem nZ (x:ByteArray):eJ [x]=x:=by
 unfold eJ;rw [R6,S0,Lib.join_one]
theorem mA {l:List ByteArray} (h:l≠[]) (x:ByteArray):eJ (l++[x])=eJ l++tS++x:=by
 cases l with
 | nil=>exact absurd rfl h
 | cons y r =>
  unfold eJ;refine ByteArray.ext ?_;rw [Sw,R6,Su,R6,S0,R6,Lib.join_cons,Lib.join_cons];unfold Lib.joinTail;simp
theorem eZ (l:List ByteArray):(∀ x∈l,x.size<=12)->(eJ l).size<=13*l.length:=by
 refine kY (p:=fun l=>(∀ x∈l,x.size<=12)->(eJ l).size<=13*l.length) (fun _=>by rw [nM];decide) (fun l x ih hs=>?_) l;have hx:=hs x (by simp);have hi:=ih fun y hy=>hs y (by simp [hy]);by_cases he:l=[]
 ·subst he;rw [TS,nZ];simp;omega
 ·rw [mA he,Rv,Rv,Rz]
  have:tS.size=1:=rfl;simp only [RF,RV];omega
def LW.line (L:LW) (nm:ByteArray) (i:Nat) (ws:List Int):ByteArray × LW:=(uT++vt ((i:Int)+1)++tS++nm++(A9++eJ (L.forms ws).1++A8),(L.forms ws).2)
def LW.step (nm:ByteArray) (S:Int->List Int) (p:ByteArray × LW) (i:Nat):ByteArray × LW :=
 match p.2.order[i]? with
 | none=>p
 | some o=>(p.1++((p.2.line nm i (S o)).1++AE),(p.2.line nm i (S o)).2)
def LW.lines (nm:ByteArray) (S:Int->List Int) (p:ByteArray × LW):Nat->ByteArray × LW
 | 0=>p
 | i+1=>LW.step nm S (LW.lines nm S p i) i
theorem lM {nm:ByteArray}{S:Int->List Int}{p:ByteArray × LW}{i:Nat} (h:(LW.lines nm S p i).2.order.length<=i):∀ k,LW.lines nm S p (i+k)=LW.lines nm S p i
 | 0=>rfl
 | k+1=>by
  show LW.step nm S (LW.lines nm S p (i+k)) (i+k)=_;rw [lM h k];unfold LW.step;rw [Tb (by omega)]
theorem nD {nm:ByteArray}{S:Int->List Int}{p:ByteArray × LW}{i:Nat} (h:(LW.lines nm S p i).2.order.length<=i) (h2:i<=2000):LW.lines nm S p 2000=LW.lines nm S p i:=by
 have:=lM h (2000-i)
 rwa [show i+(2000-i)=2000 by omega] at this
structure SOk (G:Int->Prop) (S:Int->List Int):Prop where
 many:∀ o,G o->(S o).length<=8192
 ok:∀ o,G o->∀ w∈S o,ph G w
theorem LW.Ok.line {L:LW}{G:Int->Prop}{S:Int->List Int}{nm:ByteArray} (h:L.Ok G) (hS:SOk G S) (hn:nm.size<=96){i:Nat} (hi:i<2000){o:Int} (ho:G o) :
  (L.line nm i (S o)).2.Ok G∧(L.line nm i (S o)).1.size<=150000:=by
 obtain ⟨h1,h2,h3⟩:=h.forms (S o) (hS.ok o ho);refine ⟨h1,?_⟩;unfold LW.line;have hj:=eZ _ h3;have hm:=hS.many o ho;have hz:=fw (n:=(i:Int)+1) (by omega) (by omega);simp only [Rv];have e1:uT.size=1:=rfl;have e2:tS.size=1:=rfl;have e3:A9.size=2:=rfl;have e4:A8.size=1:=rfl;omega
theorem jM {nm:ByteArray}{S:Int->List Int}{G:Int->Prop}{p:ByteArray × LW} (h:p.2.Ok G) (hS:SOk G S) (hn:nm.size<=96):∀ i,i<=2000->(LW.lines nm S p i).2.Ok G∧(LW.lines nm S p i).1.size<=p.1.size+200000*i
 | 0,_=>⟨h,by simp [LW.lines]⟩
 | i+1,hi=>by
  obtain ⟨h1,h2⟩:=jM h hS hn i (by omega);show (LW.step nm S (LW.lines nm S p i) i).2.Ok G∧(LW.step nm S (LW.lines nm S p i) i).1.size<=_;generalize LW.lines nm S p i=q at h1 h2;unfold LW.step;cases ho:q.2.order[i]? with
  | none=>exact ⟨h1,by simp only;omega⟩
  | some o =>
   obtain ⟨l1,l2⟩:=h1.line hS hn (i:=i) (by omega) (h1.all o (List.mem_of_getElem? ho));refine ⟨l1,?_⟩;simp only [Rv];have e4:AE.size=1:=rfl;omega
def LW.globG (p:ByteArray × LW) (g:ByteArray × Int):ByteArray × LW:=(p.1++(g.1++Cs++(p.2.form g.2).1++AE),(p.2.form g.2).2)
def LW.globs (gs:List (ByteArray × Int)):ByteArray × LW:=gs.foldl LW.globG (⟨#[]⟩,⟨[],false⟩)
theorem mF (gs:List (ByteArray × Int)) (g:ByteArray × Int):LW.globs (gs++[g])=LW.globG (LW.globs gs) g:=by
 unfold LW.globs;rw [TH];rfl
theorem pI {G:Int->Prop} (gs:List (ByteArray × Int)):(∀ g∈gs,g.1.size<=96∧ph G g.2)->(LW.globs gs).2.Ok G∧(LW.globs gs).1.size<=200*gs.length:=by
 refine kY (p:=fun gs=>(∀ g∈gs,g.1.size<=96∧ph G g.2)->(LW.globs gs).2.Ok G∧(LW.globs gs).1.size<=200*gs.length) (fun _=>⟨⟨by simp [LW.globs],by simp [LW.globs]⟩,by decide⟩) (fun l x ih hs=>?_) gs;obtain ⟨h1,h2⟩:=ih fun g hg=>hs g (by simp [hg]);obtain ⟨h3,h4⟩:=hs x (by simp);obtain ⟨f1,f2⟩:=h1.form h4;rw [mF];refine ⟨f1,?_⟩;unfold LW.globG;simp only [Rv,Rz,RF,RV];have e1:Cs.size=3:=rfl;have e2:AE.size=1:=rfl;omega
def rP (nm:ByteArray) (S:Int->List Int) (gs:List (ByteArray × Int)):ByteArray :=
 if (LW.lines nm S (LW.globs gs) 2000).2.more then (LW.lines nm S (LW.globs gs) 2000).1++Bx else (LW.lines nm S (LW.globs gs) 2000).1
abbrev two (p:Int × Int):Value:=.tuple #[.int .i64 p.1,.int .i64 p.2]
abbrev jQ (p:Int × Int × Int):Value:=.tuple #[.int .i64 p.1,.int .i64 p.2.1,.int .i64 p.2.2]
structure RO where
 oop:Int
 fmt:Int
 place:Int
 born:Int
 cls:Int
 slots:List Int
structure RH where
 words:Int
 oops:Int
 mark:Int
 born:Int
 turn:Int
 objs:List RO
def lenOf (n fmt:Int):Int:=if fmt=1 then 2+(n+3) / 4 else 2+n
def RO.len (o:RO):Int:=lenOf (o.slots.length:Int) o.fmt
def aG (l:List RO) (k:Int):Option RO:=l.find? fun o=>decide (o.oop=k)
def bv (l:List RO):Int:=match l.getLast? with
 | none=>0
 | some o=>o.place+o.len
def fF (fmt w:Int):Prop:=if fmt=1 then 0<=w∧w<=255 else d8 w
instance (fmt w:Int):Decidable (fF fmt w):=by unfold fF;exact inferInstance
def k9 (l:List RO):Nat->Int->Int
 | 0,k=>k
 | n+1,k=>if (aG l k).isSome then k9 l n (k+1) else k
def bR (l:List RO):Int:=k9 l 65600 1
structure GoodO (words oops:Int) (o:RO):Prop where
 oop1:1<=o.oop
 oop2:o.oop<=oops
 fmt:o.fmt=0∨o.fmt=1
 pl:0<=o.place
 fits:o.place+o.len<=words
 cls:d8 o.cls
 many:o.slots.length<=8192
 may:∀ w∈o.slots,fF o.fmt w
def ms (a b:RO):Prop:=a.oop≠b.oop∧a.place+a.len<=b.place
structure WFO (words oops:Int) (l:List RO):Prop where
 good:∀ o∈l,GoodO words oops o
 pw:l.Pairwise ms
structure WFH (r:RH):Prop where
 w0:0<=r.words
 w1:r.words<=1048576
 o0:0<=r.oops
 o1:r.oops<=65536
 m0:0<=r.mark
 m1:r.mark<=1073741824
 objs:WFO r.words r.oops r.objs
theorem gu {n fmt:Int} (h:0<=n):2<=lenOf n fmt:=by unfold lenOf;split <;> omega
theorem jE {n fmt:Int} (h:0<=n):lenOf n fmt<=2+n+3:=by unfold lenOf;split <;> omega
theorem RO.len_pos (o:RO):2<=o.len:=gu (by omega)
theorem aN {l:List RO}{k:Int}{o:RO} (h:aG l k=some o):o∈l∧o.oop=k:=by
 unfold aG at h;exact ⟨List.mem_of_find?_eq_some h,by simpa using List.find?_some h⟩
theorem db {l:List RO}{k:Int}:aG l k=none↔∀ o∈l,o.oop≠k:=by
 unfold aG;simp [List.find?_eq_none]
theorem rn {l:List RO} (h:l.Pairwise ms){a b:RO} (ha:a∈l) (hb:b∈l):a=b∨ms a b∨ms b a:=by
 induction h with
 | nil=>cases ha
 | @cons x l hx _ ih =>
  rcases Rk.1 ha with e1 | Gg
  ·rcases Rk.1 hb with e2 | er
   ·exact .inl (e1.trans e2.symm)
   ·exact .inr (.inl (e1 ▸ hx b er))
  ·rcases Rk.1 hb with e2 | er
   ·exact .inr (.inr (e2 ▸ hx a Gg))
   ·exact ih Gg er
theorem cA {words oops:Int}{l:List RO} (hw:WFO words oops l){o:RO} (h:o∈l):aG l o.oop=some o:=by
 cases hf:aG l o.oop with
 | none=>exact absurd rfl (db.1 hf o h)
 | some o' =>
  obtain ⟨h1,h2⟩:=aN hf;rcases rn hw.pw h1 h with rfl | h3 | h3
  ·rfl
  ·exact absurd h2 h3.1
  ·exact absurd h2.symm h3.1
theorem dZ {l:List RO}{x:RO}{k:Int}:aG (l++[x]) k=match aG l k with
  | some o=>some o
  | none=>if x.oop=k then some x else none:=by
 unfold aG;rw [List.find?_append];cases List.find? (fun o=>decide (o.oop=k)) l with
 | some o=>rfl
 | none =>
  simp only [Option.none_or,S6,List.find?_nil];by_cases h:x.oop=k <;> simp [h]
theorem apart {words oops:Int}{l:List RO} (hw:WFO words oops l){a b:RO} (ha:a∈l) (hb:b∈l) (hn:a.oop≠b.oop):a.place+a.len<=b.place∨b.place+b.len<=a.place:=by
 rcases rn hw.pw ha hb with rfl | h | h
 ·exact absurd rfl hn
 ·exact .inl h.2
 ·exact .inr h.2
theorem cW (l:List RO) (x:RO):bv (l++[x])=x.place+x.len:=by simp [bv]
theorem jt {words oops:Int}{l:List RO} (hw:WFO words oops l){o:RO} (h:o∈l):o.place+o.len<=bv l:=by
 rcases Sg l with rfl | ⟨m,x,rfl⟩ <;> (try simp only [Sr] at *)
 ·cases h
 ·rw [cW];rcases Rl.1 h with h | h
  ·have:=(SK.1 hw.pw).2.2 o h x (by simp)
   have:=this.2
   have:=x.len_pos;omega
  ·simp at h;subst h;exact Sc _
theorem bX {words oops:Int}{l:List RO} (hw:WFO words oops l) (h0:0<=words):0<=bv l∧bv l<=words:=by
 rcases Sg l with rfl | ⟨m,x,rfl⟩ <;> (try simp only [Sr] at *)
 ·exact ⟨by simp [bv],by simpa [bv] using h0⟩
 ·rw [cW];have hg:=hw.good x (by simp)
  have:=hg.pl
  have:=hg.fits
  have:=x.len_pos;omega
theorem jG (l:List RO):∀ (n:Nat) (k m:Int),k<=m->m<k+n->aG l m=none->(∀ j,k<=j->j<m->aG l j≠none)->k9 l n k=m
 | 0,k,m,h1,h2,_,_=>by omega
 | n+1,k,m,h1,h2,h3,h4=>by
  unfold k9;by_cases h:k=m
  ·subst h;simp [h3]
  ·have h5:aG l k≠none:=h4 k (by omega) (by omega);rw [Rj (by cases hk:aG l k with | none=>exact absurd hk h5 | some _=>rfl)];exact jG l n (k+1) m (by omega) (by omega) h3 fun j hj=>h4 j (by omega)
theorem rm {l:List RO}{m:Int} (h1:1<=m) (h2:m<=65537) (h3:aG l m=none) (h4:∀ j,1<=j->j<m->aG l j≠none):bR l=m :=
 jG l 65600 1 m h1 (by omega) h3 h4
theorem pW:∀ (n:Nat) (l:List RO),(∀ k:Int,1<=k->k<=n->∃ o∈l,o.oop=k)->n<=l.length
 | 0,_,_=>RL _
 | n+1,l,h=>by
  obtain ⟨o,ho,hk⟩:=h (n+1:Nat) (by omega) (by omega);obtain ⟨s,t,rfl⟩:=TC ho
  have:=pW n (s++t) fun k h1 h2=>by
   obtain ⟨o',C2,AT⟩:=h k h1 (by omega);refine ⟨o',?_,AT⟩;have c9:o'≠o:=fun e=>by subst e;omega
   simp only [Rl,Rk] at C2 ⊢;rcases C2 with h | h | h
   ·exact .inl h
   ·exact absurd h c9
   ·exact .inr h
  simp only [Rz,RF] at this ⊢;omega
theorem gC {l:List RO}:∀ (n:Nat) (k:Int),(∃ m,k<=m∧m<k+n∧aG l m=none)->∃ m,k<=m∧m<k+n∧aG l m=none∧∀ j,k<=j->j<m->aG l j≠none
 | 0,k,⟨m,h1,h2,_⟩=>by omega
 | n+1,k,⟨m,h1,h2,h3⟩=>by
  by_cases h:aG l k=none
  ·exact ⟨k,Sc _,by omega,h,fun j h1 h2=>by omega⟩
  ·have hm:k≠m:=fun e=>h (e ▸ h3);obtain ⟨m',g1,g2,g3,g4⟩:=gC n (k+1) ⟨m,by omega,by omega,h3⟩;refine ⟨m',by omega,by omega,g3,fun j h1 h2=>?_⟩;by_cases hj:j=k
   ·subst hj;exact h
   ·exact g4 j (by omega) h2
theorem dm {words oops:Int}{l:List RO} (hw:WFO words oops l) (h1:oops<=65536) (h:(l.length:Int)<oops) :
  1<=bR l∧bR l<=oops∧aG l (bR l)=none∧∀ j,1<=j->j<bR l->aG l j≠none:=by
 have LX:∃ m,1<=m∧m<1+(oops.toNat:Int)∧aG l m=none:=by
  refine RE fun yB=>?_
  have:=pW oops.toNat l fun k Dw EF=>by
   cases hk:aG l k with
   | none=>exact absurd ⟨k,Dw,by omega,hk⟩ yB
   | some o=>exact ⟨o,(aN hk).1,(aN hk).2⟩
  omega
 obtain ⟨m,g1,g2,g3,g4⟩:=gC _ _ LX;have e:=rm g1 (by omega) g3 g4;rw [e];exact ⟨g1,by omega,g3,g4⟩
def cY (r:RH) (cls n fmt:Int):RO:=⟨bR r.objs,fmt,bv r.objs,r.born,cls,List.replicate n.toNat (if fmt=1 then 0 else 4)⟩
def RH.alloc (r:RH) (cls n fmt:Int):(Int × Int) × RH :=
 if ¬ d8 cls∨fmt<0∨1<fmt∨n<0 then ((0,1),r)
 else if 8192<n then ((0,22),r)
 else if r.oops<=(r.objs.length:Int)∨r.words<bv r.objs+lenOf n fmt then ((0,23),r)
 else if r.mark=1 then ((0,24),{ r with mark:=0 })
 else ((bR r.objs,0),{ r with mark:=if 0<r.mark then r.mark-1 else r.mark,born:=IntKind.wrap .i64 (r.born+1),objs:=r.objs++[cY r cls n fmt] })
def fS (l:List RO) (k:Int) (f:RO->RO):List RO:=l.map fun o=>if o.oop=k then f o else o
def fA (i w:Int) (o:RO):RO:={ o with slots:=o.slots.set i.toNat w }
def RH.at (r:RH) (k i:Int):Int × Int:=match aG r.objs k with
 | none=>(0,20)
 | some o=>if i<0∨(o.slots.length:Int)<=i then (0,21) else (o.slots.getD i.toNat 0,0)
def RH.put (r:RH) (k i w:Int):Int × RH:=match aG r.objs k with
 | none=>(20,r)
 | some o=>if i<0∨(o.slots.length:Int)<=i then (21,r) else if ¬ fF o.fmt w then (10,r) else (0,{ r with objs:=fS r.objs k (fA i w) })
def RH.clsAt (r:RH) (k:Int):Int × Int:=match aG r.objs k with
 | none=>(0,20)
 | some o=>(o.cls,0)
def RH.size (r:RH) (k:Int):Int × Int × Int:=match aG r.objs k with
 | none=>(0,0,20)
 | some o=>((o.slots.length:Int),o.fmt,0)
def RH.marks (r:RH) (k:Int):Int × RH:=if 0<=k∧k<=1073741824 then (0,{ r with mark:=k }) else (1,r)
def bS:Int->List RO->List RO
 | _,[]=>[]
 | at_,o :: l=>{ o with place:=at_ } :: bS (at_+o.len) l
def RH.keepO (r:RH) (l:List Int):List RO:=bS 0 (r.objs.filter fun o=>decide (o.oop∈l))
def RH.keep (r:RH) (l:List Int):(Int × Int × Int) × RH :=
 if ∃ k∈l,aG r.objs k=none then ((0,0,20),r)
 else (((r.objs.length:Int)-((r.keepO l).length:Int),bv r.objs-bv (r.keepO l),0),{ r with objs:=r.keepO l,turn:=IntKind.wrap .i64 (r.turn+1) })
def RH.upto (r:RH) (n:Nat):List Int:=((List.range n).map fun i:Nat=>(i:Int)).filter fun k=>(aG r.objs k).isSome
def RH.all (r:RH):List Int:=r.upto (r.oops+1).toNat
theorem RH.upto_succ (r:RH) (n:Nat):r.upto (n+1)=r.upto n++if (aG r.objs n).isSome then [(n:Int)] else []:=by
 unfold RH.upto;rw [List.range_succ,Su,SR]
 congr 1
 simp only [R6,S0,List.filter_cons,List.filter_nil]
theorem RH.upto_len (r:RH) (n:Nat):(r.upto n).length<=n:=by
 unfold RH.upto;exact Rr (Ss _ _) (by simp)
theorem RH.mem_all {r:RH} (h:WFH r){k:Int}:k∈r.all↔aG r.objs k≠none:=by
 unfold RH.all RH.upto;simp only [Sb,RN,List.mem_range];constructor
 ·rintro ⟨_,h2⟩ h3;rw [h3] at h2;cases h2
 ·intro hk;cases ho:aG r.objs k with
  | none=>exact absurd ho hk
  | some o =>
   have hg:=h.objs.good o (aN ho).1;have h1:=hg.oop1;have h2:=hg.oop2;rw [(aN ho).2] at h1 h2;exact ⟨⟨k.toNat,by omega,by omega⟩,rfl⟩
theorem uN (l:List RO) (k:Int) (f:RO->RO):(fS l k f).length=l.length:=by simp [fS]
theorem eC {l:List RO}{k j:Int}{f:RO->RO} (hf:∀ o,(f o).oop=o.oop):aG (fS l k f) j=(aG l j).map fun o=>if o.oop=k then f o else o:=by
 induction l with
 | nil=>rfl
 | cons o l ih =>
  unfold aG fS at *;simp only [R6,S6];have e:(if o.oop=k then f o else o).oop=o.oop:=by split <;> simp [hf]
  rw [e];by_cases h:o.oop=j
  ·simp [h]
  ·simp only [h,decide_false];exact ih
theorem Aw {l:List RO}{g:RO->RO} (h1:∀ o,(g o).oop=o.oop) (h2:∀ o,(g o).place=o.place) (h3:∀ o,(g o).len=o.len) (h:l.Pairwise ms):(l.map g).Pairwise ms:=by
 rw [SL];refine h.imp fun {a b} E9=>?_;unfold ms at *;rw [h1,h1,h2,h2,h3];exact E9
theorem jZ (i w:Int) (o:RO):(fA i w o).len=o.len:=by simp [fA,RO.len]
theorem nU {l:List RO}{k:Int}{f:RO->RO} (h2:∀ o,(f o).place=o.place) (h3:∀ o,(f o).len=o.len):bv (fS l k f)=bv l:=by
 unfold bv fS;rw [List.getLast?_map];cases l.getLast? with
 | none=>rfl
 | some o =>
  show (if o.oop=k then f o else o).place+(if o.oop=k then f o else o).len=o.place+o.len;split
  ·rw [h2,h3]
  ·rfl
theorem pA {words oops:Int}{l:List RO} (hw:WFO words oops l){n:Nat} (hn:n<l.length) (f:RO->RO):fS l l[n].oop f=l.set n (f l[n]):=by
 apply SH
 ·simp [fS]
 ·intro j h1 h2;simp only [fS,SI,List.getElem_set];have hj:j<l.length:=by simpa [fS] using h1
  by_cases h:n=j
  ·subst h;simp
  ·rw [Re h,Re];intro he;have h3:=cA hw (RG hj);have h4:=cA hw (RG hn);have Oe:=List.pairwise_iff_getElem.1 hw.pw;rcases Sf n j with h5 | h5
   ·exact (Oe n j hn hj h5).1 he.symm
   ·exact (Oe j n hj hn (by omega)).1 he
theorem gD {r:RH} (h:WFH r) (cls n fmt:Int):WFH (r.alloc cls n fmt).2:=by
 unfold RH.alloc;split
 ·exact h
 split
 ·exact h
 split
 ·exact h
 split
 ·exact { h with m0:=by simp,m1:=by simp }
 ·rename_i h1 h2 h3 h4;have hl:=dm h.objs h.o1 (by omega);have b8:(cY r cls n fmt).len=lenOf n fmt:=by simp only [cY,RO.len,SF];congr 1;omega
  have he:=bX h.objs h.w0;have LY:=h.m0;have DA:=h.m1;refine { w0:=h.w0,w1:=h.w1,o0:=h.o0,o1:=h.o1,m0:=?_,m1:=?_,objs:=⟨?_,?_⟩ }
  ·show 0<=if 0<r.mark then r.mark-1 else r.mark;split <;> omega
  ·show (if 0<r.mark then r.mark-1 else r.mark)<=1073741824;split <;> omega
  ·intro o ho;rcases Rl.1 ho with ho | ho
   ·exact h.objs.good o ho
   ·simp at ho;subst ho;refine { oop1:=hl.1,oop2:=hl.2.1,fmt:=?_,pl:=he.1,fits:=?_,cls:=?_,many:=?_,may:=?_ }
    ·show fmt=0∨fmt=1;omega
    ·rw [b8];show bv r.objs+lenOf n fmt<=r.words;omega
    ·exact RE fun hc=>h1 (.inl hc)
    ·simp only [cY,SF];omega
    ·intro w hw;simp only [cY] at hw ⊢
     have:=List.eq_of_mem_replicate hw;subst this;unfold fF;split
     ·simp
     ·decide
  ·rw [SK];refine ⟨h.objs.pw,by simp,fun a ha b hb=>?_⟩;simp at hb;subst hb;exact ⟨db.1 hl.2.2.1 a ha,jt h.objs ha⟩
theorem gI {r:RH} (h:WFH r) (k i w:Int):WFH (r.put k i w).2:=by
 unfold RH.put;split
 ·exact h
 split
 ·exact h
 split
 ·exact h
 ·rename_i o ho h1 h2;refine { h with objs:=⟨?_,?_⟩ }
  ·intro o' C2;simp only [fS,RN] at C2;obtain ⟨a,ha,rfl⟩:=C2;have hg:=h.objs.good a ha;split
   ·rename_i hk
    have:a=o:=by have:=cA h.objs ha;rw [hk,ho] at this;exact (Option.some.inj this).symm
    subst this;refine { oop1:=hg.oop1,oop2:=hg.oop2,fmt:=hg.fmt,pl:=hg.pl,fits:=by rw [jZ];exact hg.fits,cls:=hg.cls,many:=by simpa [fA] using hg.many,may:=?_ };intro x hx;rcases Th hx with hx | rfl
    ·exact hg.may x hx
    ·exact RE h2
   ·exact hg
  ·refine Aw (fun o=>?_) (fun o=>?_) (fun o=>?_) h.objs.pw
   ·split <;> rfl
   ·split <;> rfl
   ·split
    ·exact jZ i w o
    ·rfl
theorem uC {r:RH} (h:WFH r) (k:Int):WFH (r.marks k).2:=by
 unfold RH.marks;split
 ·exact { h with m0:=by simp;omega,m1:=by simp;omega }
 ·exact h
theorem iM (at_:Int) (l:List RO):(bS at_ l).length=l.length:=by
 induction l generalizing at_ with
 | nil=>rfl
 | cons o l ih=>simp [bS,ih]
theorem kk {at_:Int}{l:List RO}{x:RO} (h:x∈bS at_ l):∃ o∈l,x={ o with place:=x.place }∧at_<=x.place:=by
 induction l generalizing at_ with
 | nil=>cases h
 | cons o l ih =>
  rcases Rk.1 h with rfl | h
  ·exact ⟨o,by simp,rfl,Sc _⟩
  ·obtain ⟨o',h1,h2,h3⟩:=ih h;exact ⟨o',by simp [h1],h2,by have:=o.len_pos;omega⟩
theorem jN {words oops:Int}:∀ (l:List RO) (at_:Int),WFO words oops l->0<=at_->(∀ o∈l,at_<=o.place)->WFO words oops (bS at_ l)∧(∀ x∈bS at_ l,at_<=x.place)
 | [],_,h,_,_=>⟨h,by simp [bS]⟩
 | o :: l,at_,h,h0,CI=>by
  have hp:=RI.1 h.pw;have hg:=h.good o (by simp);have ho:=CI o (by simp);have b8:({ o with place:=at_ }:RO).len=o.len:=rfl;have p6:=o.len_pos;have ih:=jN l (at_+o.len) ⟨fun x hx=>h.good x (by simp [hx]),hp.2⟩ (by omega) fun x hx=>by have:=(hp.1 x hx).2;omega
  refine ⟨⟨?_,?_⟩,?_⟩
  ·intro x hx;rcases Rk.1 hx with rfl | hx
   ·have hf:=hg.fits;exact { oop1:=hg.oop1,oop2:=hg.oop2,fmt:=hg.fmt,pl:=h0,fits:=by rw [b8];show at_+o.len<=words;omega,cls:=hg.cls,many:=hg.many,may:=hg.may }
   ·exact ih.1.good x hx
  ·refine RI.2 ⟨fun x hx=>⟨?_,?_⟩,ih.1.pw⟩
   ·obtain ⟨o',h1,h2,_⟩:=kk hx;rw [h2];exact (hp.1 o' h1).1
   ·rw [b8];exact ih.2 x hx
  ·intro x hx;rcases Rk.1 hx with rfl | hx
   ·exact Sc _
   ·have:=ih.2 x hx;omega
theorem WFO.filter {words oops:Int}{l:List RO} (h:WFO words oops l) (p:RO->Bool):WFO words oops (l.filter p) :=
 ⟨fun o ho=>h.good o (Sb.1 ho).1,h.pw.filter p⟩
theorem ls {r:RH} (h:WFH r) (l:List Int):WFO r.words r.oops (r.keepO l) :=
 (jN _ 0 (h.objs.filter _) (Sc _) fun o ho=>(h.objs.good o (Sb.1 ho).1).pl).1
theorem eu {r:RH} (h:WFH r) (l:List Int):WFH (r.keep l).2:=by
 unfold RH.keep;split
 ·exact h
 ·exact { h with objs:=ls h l }
theorem fJ (l m:List RO) (k:Int):aG (l++m) k=(aG l k).or (aG m k):=by
 unfold aG;exact List.find?_append
theorem gM (o:RO) (l:List RO) (k:Int):aG (o :: l) k=if o.oop=k then some o else aG l k:=by
 unfold aG;simp only [S6];by_cases h:o.oop=k <;> simp [h]
theorem ee {words oops:Int}{l:List RO} (hw:WFO words oops l):2*(l.length:Int)<=bv l:=by
 generalize hn:l.length=n
 induction n generalizing l with
 | zero =>
  have:l=[]:=RM hn;subst this;simp [bv]
 | succ n ih =>
  rcases Sg l with rfl | ⟨m,x,rfl⟩
  ·cases hn
  ·simp only [Sr] at *;have hm:m.length=n:=by simpa using hn
   have LZ:WFO words oops m:=⟨fun o ho=>hw.good o (by simp [ho]),(SK.1 hw.pw).1⟩;have h1:=ih LZ hm;have hx:=x.len_pos;have GC:=(hw.good x (by simp)).pl;rw [cW]
   have:bv m<=x.place:=by
    rcases Sg m with rfl | ⟨m2,y,rfl⟩
    ·simpa [bv] using GC
    ·simp only [Sr] at *;rw [cW];exact ((SK.1 hw.pw).2.2 y (by simp) x (by simp)).2
   push_cast
   omega
theorem RH.all_nodup (r:RH):r.all.Nodup:=by
 unfold RH.all RH.upto;exact (TP.map (fun (i:Nat)=>(i:Int)) fun a b E9 h=>E9 (by omega)).filter _
theorem RH.all_perm {r:RH} (hw:WFH r):r.all.Perm (r.objs.map (·.oop)):=by
 have hn:(r.objs.map (·.oop)).Nodup:=by
  rw [SA,SL];exact hw.objs.pw.imp fun h=>h.1
 rw [Tf r.all_nodup hn];intro k;rw [RH.mem_all hw,RN];constructor
 ·intro h;cases ho:aG r.objs k with
  | none=>exact absurd ho h
  | some o=>exact ⟨o,(aN ho).1,(aN ho).2⟩
 ·rintro ⟨o,ho,he⟩;rw [←he,cA hw.objs ho];simp
theorem RH.all_len {r:RH} (hw:WFH r):r.all.length=r.objs.length:=by
 have:=(RH.all_perm hw).length_eq;simpa using this
theorem RH.upto_prefix (r:RH) (n:Nat):∀ m,n<=m->∃ t,r.upto m=r.upto n++t
 | 0,h=>⟨[],by have:n=0:=by omega
               subst this;simp⟩
 | m+1,h=>by
  by_cases hm:n=m+1
  ·subst hm;exact ⟨[],by simp⟩
  ·obtain ⟨t,ht⟩:=RH.upto_prefix r n m (by omega);exact ⟨t++if (aG r.objs m).isSome then [(m:Int)] else [],by rw [RH.upto_succ,ht,R9]⟩
def bz (a:Int):List RO->Int
 | []=>a
 | o :: l=>bz (a+o.len) l
theorem eO (a:Int) (l:List RO) (o:RO):bz a (l++[o])=bz a l+o.len:=by
 induction l generalizing a with
 | nil=>rfl
 | cons x l ih=>simp [bz,ih]
theorem dl (a:Int) (l:List RO) (o:RO):bS a (l++[o])=bS a l++[{ o with place:=bz a l }]:=by
 induction l generalizing a with
 | nil=>rfl
 | cons x l ih=>simp [bS,ih,bz]
theorem fL (l:List RO):bv (bS 0 l)=bz 0 l:=by
 rcases Sg l with rfl | ⟨m,x,rfl⟩
 ·rfl
 ·simp only [Sr];rw [dl,cW,eO];rfl
theorem lK {words oops:Int}:∀ (l:List RO) (a:Int),WFO words oops l->(∀ o∈l,a<=o.place)->∀ x∈bS a l,∃ o∈l,x={ o with place:=x.place }∧x.place<=o.place
 | [],_,_,_,x,hx=>by cases hx
 | o :: l,a,h,CI,x,hx=>by
  rcases Rk.1 hx with rfl | hx
  ·exact ⟨o,by simp,rfl,CI o (by simp)⟩
  ·have hp:=RI.1 h.pw;obtain ⟨o',h1,h2,h3⟩:=lK l (a+o.len) ⟨fun y hy=>h.good y (by simp [hy]),hp.2⟩ (fun y hy=>by have:=(hp.1 y hy).2;have:=CI o (by simp);omega) x hx;exact ⟨o',by simp [h1],h2,h3⟩
structure KeepSt (W0:Int->Int) (words oops:Int) (keep:RO->Bool) (done rest:List RO) (W T:Int->Int) (low:Int):Prop where
 wf:WFO words oops (done++rest)
 regK:∀ x∈bS 0 (done.filter keep),∃ o∈done,x={ o with place:=x.place }∧∀ i,0<=i->i<o.len->W (x.place+i)=W0 (o.place+i)
 regR:∀ o∈rest,∀ i,0<=i->i<o.len->W (o.place+i)=W0 (o.place+i)
 tab:∀ k,0<=k->k<=oops->T k=match aG (bS 0 (done.filter keep)++rest) k with
  | some x=>x.place
  | none=>-1
 low1:1<=low
 low2:low<=oops+1
 low3:∀ k,1<=k->k<low->aG (bS 0 (done.filter keep)++rest) k≠none
section
variable {W0:Int->Int}{words oops:Int}{keep:RO->Bool}{done rest:List RO}{o:RO}{W T:Int->Int}{low:Int}
theorem KeepSt.wfd (h:KeepSt W0 words oops keep done rest W T low):WFO words oops (done.filter keep) :=
 WFO.filter ⟨fun x hx=>h.wf.good x (by simp [hx]),(SK.1 h.wf.pw).1⟩ keep
theorem KeepSt.ends (h:KeepSt W0 words oops keep done (o :: rest) W T low):0<=bz 0 (done.filter keep)∧bz 0 (done.filter keep)<=o.place∧(∀ x∈bS 0 (done.filter keep),0<=x.place∧x.place+x.len<=bz 0 (done.filter keep)∧x.oop≠o.oop)∧∀ y∈rest,o.place+o.len<=y.place∧y.oop≠o.oop:=by
 have GC:∀ x∈done.filter keep,(0:Int)<=x.place:=fun x hx=>(h.wfd.good x hx).pl;have hs:=jN _ 0 h.wfd (Sc _) GC;have hb:0<=bv (bS 0 (done.filter keep)):=by
  have:=ee hs.1;omega
 have GB:=SK.1 h.wf.pw;rw [fL] at hb;refine ⟨hb,?_,fun x hx=>?_,fun y hy=>?_⟩
 ·rcases Sg (done.filter keep) with he | ⟨m,x,he⟩
  ·rw [he];exact (h.wf.good o (by simp)).pl
  ·simp only [Sr] at he;have hx:x∈done.filter keep:=by rw [he];simp
   have h1:({ x with place:=bz 0 m }:RO)∈bS 0 (done.filter keep):=by rw [he,dl];simp
   obtain ⟨o',g1,g2,g3⟩:=lK _ 0 h.wfd GC _ h1;have Pj:=GB.2.2 x (Sb.1 hx).1 o (by simp);have C8:o'.oop=x.oop:=(congrArg RO.oop g2).symm;have L8:o'=x:=by
    rcases rn h.wfd.pw g1 hx with e | e | e
    ·exact e
    ·exact absurd C8 e.1
    ·exact absurd C8.symm e.1
   have g4:bz 0 m<=x.place:=L8 ▸ g3
   have:=Pj.2;rw [he,eO];omega
 ·have h1:=hs.2 x hx;have h2:=jt hs.1 hx;rw [fL] at h2;obtain ⟨o',g1,g2,_⟩:=kk hx;refine ⟨h1,h2,?_⟩;rw [g2];exact (GB.2.2 o' (Sb.1 g1).1 o (by simp)).1
 ·have:=(RI.1 GB.2.1).1 y hy;exact ⟨this.2,fun e=>this.1 e.symm⟩
theorem KeepSt.wf' (h:KeepSt W0 words oops keep done (o :: rest) W T low):WFO words oops ((done++[o])++rest):=by
 have:=h.wf;simpa using this
theorem KeepSt.stay (h:KeepSt W0 words oops keep done (o :: rest) W T low) (hk:keep o=true){W':Int->Int}
  (hW:∀ i,W' i=if bz 0 (done.filter keep)<=i∧i<bz 0 (done.filter keep)+o.len then W (i-bz 0 (done.filter keep)+o.place) else W i) :
  KeepSt W0 words oops keep (done++[o]) rest W' (upd T o.oop (bz 0 (done.filter keep))) low:=by
 obtain ⟨e1,e2,e3,e4⟩:=h.ends;have hf:(done++[o]).filter keep=done.filter keep++[o]:=by simp [hk]
 have El:∀ k,aG (bS 0 ((done++[o]).filter keep)++rest) k=if k=o.oop then some { o with place:=bz 0 (done.filter keep) } else aG (bS 0 (done.filter keep)++(o :: rest)) k:=by
  intro k;rw [hf,dl,fJ,fJ,fJ,gM,gM];by_cases Dk:k=o.oop
  ·subst Dk;have hn:aG (bS 0 (done.filter keep)) o.oop=none:=db.2 fun x hx=>(e3 x hx).2.2;rw [hn];simp
  ·have GF:¬ o.oop=k:=fun e=>Dk e.symm;rw [Re Dk,Re GF,Re GF]
   have:aG [] k=none:=rfl;rw [this,Option.or_none]
 have hg:=h.wf.good o (by simp);refine { wf:=h.wf',regK:=fun x hx=>?_,regR:=fun y hy i h0 h1=>?_,tab:=fun k h0 h1=>?_,low1:=h.low1,low2:=h.low2,low3:=fun k h0 h1=>?_ }
 ·rw [hf,dl] at hx;rcases Rl.1 hx with hx | hx
  ·obtain ⟨a,ha,Je,HV⟩:=h.regK x hx;have b8:x.len=a.len:=by rw [Je];rfl
   refine ⟨a,by simp [ha],Je,fun i h0 h1=>?_⟩;rw [hW,Re (by have:=(e3 x hx).2.1;omega)];exact HV i h0 h1
  ·simp at hx;subst hx;refine ⟨o,by simp,rfl,fun i h0 h1=>?_⟩;rw [hW,Rj (by simp only;omega),show bz 0 (done.filter keep)+i-bz 0 (done.filter keep)+o.place=o.place+i by omega];exact h.regR o (by simp) i h0 h1
 ·rw [hW,Re (by have:=(e4 y hy).1;omega)];exact h.regR y (by simp [hy]) i h0 h1
 ·rw [El];unfold upd;by_cases hk:k=o.oop
  ·rw [Rj hk,Rj hk]
  ·rw [Re hk,Re hk];exact h.tab k h0 h1
 ·rw [El];by_cases hk:k=o.oop
  ·rw [Rj hk];simp
  ·rw [Re hk];exact h.low3 k h0 h1
theorem KeepSt.drop (h:KeepSt W0 words oops keep done (o :: rest) W T low) (hk:keep o=false) :
  KeepSt W0 words oops keep (done++[o]) rest (upd W o.place 0) (upd T o.oop (-1)) (if o.oop<low then o.oop else low):=by
 obtain ⟨e1,e2,e3,e4⟩:=h.ends;have hf:(done++[o]).filter keep=done.filter keep:=by simp [hk]
 have E7:aG (bS 0 (done.filter keep)) o.oop=none:=db.2 fun x hx=>(e3 x hx).2.2;have Dl:aG rest o.oop=none:=db.2 fun x hx=>(e4 x hx).2;have El:∀ k,aG (bS 0 ((done++[o]).filter keep)++rest) k=if k=o.oop then none else aG (bS 0 (done.filter keep)++(o :: rest)) k:=by
  intro k;rw [hf,fJ,fJ,gM];by_cases Dk:k=o.oop
  ·subst Dk;rw [E7,Dl];simp
  ·have GF:¬ o.oop=k:=fun e=>Dk e.symm;rw [Re Dk,Re GF]
 have hg:=h.wf.good o (by simp);have hlow1:=h.low1;have hlow2:=h.low2;have C3:=hg.oop1;refine { wf:=h.wf',regK:=fun x hx=>?_,regR:=fun y hy i h0 h1=>?_,tab:=fun k h0 h1=>?_,low1:=by split <;> omega,low2:=by split <;> omega,low3:=fun k h0 h1=>?_ }
 ·rw [hf] at hx;obtain ⟨a,ha,Je,HV⟩:=h.regK x hx;have b8:x.len=a.len:=by rw [Je];rfl
  refine ⟨a,by simp [ha],Je,fun i h0 h1=>?_⟩;rw [upd,Re (by have:=(e3 x hx).2.1;omega)];exact HV i h0 h1
 ·rw [upd,Re (by have:=(e4 y hy).1;have:=o.len_pos;omega)];exact h.regR y (by simp [hy]) i h0 h1
 ·rw [El];unfold upd;by_cases hk:k=o.oop
  ·rw [Rj hk,Rj hk]
  ·rw [Re hk,Re hk];exact h.tab k h0 h1
 ·rw [El];have an:k<o.oop∨k≠o.oop∧k<low:=by
   by_cases hc:o.oop<low
   ·rw [Rj hc] at h1;exact .inl h1
   ·rw [Re hc] at h1;exact .inl (by omega)
  have DC:k<low:=by
   by_cases hc:o.oop<low
   ·rw [Rj hc] at h1;omega
   ·rw [Re hc] at h1;exact h1
  rw [Re (by rcases an with h | h <;> omega)];exact h.low3 k h0 DC
end
def bd (r:RH) (w:Int):Int:=if bT w=3∧(aG r.objs (w / 4)).isSome then w / 4 else 0
inductive Reaches (r:RH) (ws:List Int):Int->Prop
 | root {w:Int}:w∈ws->bd r w≠0->Reaches r ws (bd r w)
 | cls {o:RO}:Reaches r ws o.oop->o∈r.objs->bd r o.cls≠0->Reaches r ws (bd r o.cls)
 | slot {o:RO}{w:Int}:Reaches r ws o.oop->o∈r.objs->o.fmt=0->w∈o.slots->bd r w≠0->Reaches r ws (bd r w)
theorem gZ {r:RH}{w:Int} (h:bd r w≠0):aG r.objs (bd r w)≠none:=by
 unfold bd at *;split at h
 ·rename_i hc;rw [Rj hc];intro hn;rw [hn] at hc;simp at hc
 ·exact absurd rfl h
theorem Reaches.there {r:RH}{ws:List Int}{k:Int} (h:Reaches r ws k):aG r.objs k≠none:=by
 cases h with
 | root _ h=>exact gZ h
 | cls _ _ h=>exact gZ h
 | slot _ _ _ _ h=>exact gZ h
noncomputable instance (r:RH) (ws:List Int) (k:Int):Decidable (Reaches r ws k):=Classical.propDecidable _
noncomputable def RH.reach (r:RH) (ws:List Int):List Int:=r.all.filter fun k=>decide (Reaches r ws k)
theorem RH.mem_reach {r:RH} (hw:WFH r){ws:List Int}{k:Int}:k∈r.reach ws↔Reaches r ws k:=by
 unfold RH.reach;rw [Sb,RH.mem_all hw];constructor
 ·exact fun h=>of_decide_eq_true h.2
 ·exact fun h=>⟨h.there,SB h⟩
structure Closed3 (r:RH) (ws l:List Int):Prop where
 sound:∀ k∈l,Reaches r ws k
 roots:∀ w∈ws,bd r w≠0->bd r w∈l
 cls:∀ o∈r.objs,o.oop∈l->bd r o.cls≠0->bd r o.cls∈l
 slot:∀ o∈r.objs,o.oop∈l->o.fmt=0->∀ w∈o.slots,bd r w≠0->bd r w∈l
theorem Closed3.iff {r:RH}{ws l:List Int} (h:Closed3 r ws l){k:Int}:k∈l↔Reaches r ws k:=by
 refine ⟨h.sound k,fun hk=>?_⟩
 induction hk with
 | root h1 h2=>exact h.roots _ h1 h2
 | cls _ h2 h3 ih=>exact h.cls _ h2 ih h3
 | slot _ h2 h3 h4 h5 ih=>exact h.slot _ h2 ih h3 _ h4 h5
theorem Closed3.filter {r:RH}{ws l:List Int} (h:Closed3 r ws l):r.all.filter (fun k=>decide (k∈l))=r.reach ws:=by
 unfold RH.reach
 congr 1
 funext k
 rw [Sk,decide_eq_true_iff,decide_eq_true_iff];exact h.iff
theorem lP {l m:List Int} (hn:l.Nodup) (hs:∀ x∈l,x∈m):l.length<=m.length:=by
 induction l generalizing m with
 | nil=>simp
 | cons x l ih =>
  have hc:=SE.1 hn;have hx:x∈m:=hs x (by simp)
  have:=ih (m:=m.erase x) hc.2 fun y hy=>(List.mem_erase_of_ne (fun e:y=x=>hc.1 (e ▸ hy))).2 (hs y (by simp [hy]));rw [List.length_erase_of_mem hx] at this
  have:=List.length_pos_of_mem hx;simp only [RF];omega
def fe (l:List Int) (n:Int):List Int:=if n=0∨n∈l then l else l++[n]
theorem gY {l:List Int} (h:l.Nodup) (n:Int):(fe l n).Nodup:=by
 unfold fe;split
 ·exact h
 ·rename_i hc;rw [SC];refine ⟨h,by simp,fun a ha b hb=>?_⟩;simp only [Rg] at hb;subst hb;exact fun e=>hc (.inr (e ▸ ha))
theorem ff {l:List Int}{n k:Int}:k∈fe l n↔k∈l∨(k=n∧n≠0):=by
 unfold fe;split
 ·rename_i hc;constructor
  ·exact .inl
  ·rintro (h | ⟨rfl,h⟩)
   ·exact h
   ·exact hc.resolve_left h
 ·rename_i hc;simp only [Rl,Rg];constructor
  ·rintro (h | h)
   ·exact .inl h
   ·exact .inr ⟨h,fun e=>hc (.inl e)⟩
  ·rintro (h | ⟨h,_⟩)
   ·exact .inl h
   ·exact .inr h
theorem jd (l:List Int) (n:Int):∃ t,fe l n=l++t:=by
 unfold fe;split
 ·exact ⟨[],by simp⟩
 ·exact ⟨[n],rfl⟩
structure SP where
 h:RH
 king:Int
 stack:List Int
 op:Bool
 born:Int
 turn:Int
 mark:Int
structure WFS (s:SP):Prop where
 h:WFH s.h
 king0:0<=s.king
 king1:s.king<=65536
 many:s.stack.length<=65536
 words:∀ w∈s.stack,d8 w
def SP.roots (s:SP):List Int:=(4*s.king) :: s.stack
noncomputable def SP.reach (s:SP):List Int:=s.h.reach s.roots
noncomputable def SP.collect (s:SP):(Int × Int × Int) × SP:=if s.op then ((0,0,25),s) else ((s.h.keep s.reach).1,{ s with h:=(s.h.keep s.reach).2 })
noncomputable def SP.alloc (s:SP) (cls n fmt:Int):(Int × Int) × SP :=
 if (s.h.alloc cls n fmt).1.2≠23∨s.op=true then ((4*(s.h.alloc cls n fmt).1.1,(s.h.alloc cls n fmt).1.2),{ s with h:=(s.h.alloc cls n fmt).2 })
 else ((4*((s.h.keep s.reach).2.alloc cls n fmt).1.1,((s.h.keep s.reach).2.alloc cls n fmt).1.2),{ s with h:=((s.h.keep s.reach).2.alloc cls n fmt).2 })
def SP.keepW (s:SP) (ws:List Int):Int × SP:=if ∃ w∈ws,¬ d8 w then (10,s) else if 65536<s.stack.length+ws.length then (22,s) else (0,{ s with stack:=s.stack++ws })
def SP.drop (s:SP) (n:Int):Int × SP:=if n<0∨(s.stack.length:Int)<n then (28,s) else (0,{ s with stack:=s.stack.take (s.stack.length-n.toNat) })
def SP.crown (s:SP) (k:Int):Int × SP:=if (s.h.clsAt k).2≠0 then ((s.h.clsAt k).2,s) else (0,{ s with king:=k })
def SP.setRoot (s:SP) (i w:Int):Int × SP:=((s.h.put s.king i w).1,{ s with h:=(s.h.put s.king i w).2 })
theorem lF {h:RH}{cls n fmt:Int} (he:(h.alloc cls n fmt).1.2=23):(h.alloc cls n fmt).2=h:=by
 unfold RH.alloc at *;split
 ·rfl
 split
 ·rfl
 split
 ·rfl
 rename_i h1 h2 h3;rw [Re h1,Re h2,Re h3] at he;split
 ·rename_i h4;rw [Rj h4] at he;simp at he
 ·rename_i h4;rw [Re h4] at he;simp at he
def eV (r:RH) (o:Int) (ws:List Int):Prop:=∃ x,aG r.objs o=some x∧x.fmt=0∧x.slots=ws
theorem eV.uniq {r:RH}{o:Int}{ws ws':List Int} (h:eV r o ws) (h':eV r o ws'):ws=ws':=by
 obtain ⟨x,h1,_,h3⟩:=h;obtain ⟨y,h4,_,h6⟩:=h';rw [h1] at h4;cases h4;rw [←h3,←h6]
theorem eV.size {r:RH}{o:Int}{ws:List Int} (h:eV r o ws):r.size o=((ws.length:Int),0,0):=by
 obtain ⟨x,h1,h2,h3⟩:=h;simp [RH.size,h1,h2,h3]
theorem eV.at {r:RH}{o:Int}{ws:List Int} (h:eV r o ws){i:Int} (h0:0<=i) (h1:i<ws.length):r.at o i=(ws[i.toNat]'(by omega),0):=by
 obtain ⟨x,h2,_,h3⟩:=h;subst h3;simp only [RH.at,h2];rw [Re (by omega)]
 have:i.toNat<x.slots.length:=by omega
 simp [this]
theorem eV.bnd {r:RH} (hw:WFH r){o:Int}{ws:List Int} (h:eV r o ws):1<=o∧o<=65536∧ws.length<=8192∧∀ w∈ws,d8 w:=by
 obtain ⟨x,h1,h2,h3⟩:=h;have hg:=hw.objs.good x (aN h1).1;have ho:=(aN h1).2;have h4:=hg.oop1;have h5:=hg.oop2;have h6:=hw.o1;subst h3;refine ⟨by omega,by omega,hg.many,fun w w5=>?_⟩
 have:=hg.may w w5;unfold fF at this;rw [Re (by omega)] at this;exact this
theorem eV.there {r:RH}{o:Int}{ws:List Int} (h:eV r o ws):aG r.objs o≠none:=by
 obtain ⟨x,h1,_⟩:=h;rw [h1];simp
theorem oe {r:RH}{o:Int} (h0:1<=o) (h1:o<=65536) (h:aG r.objs o≠none):bd r (4*o)=o:=by
 unfold bd;have hk:bT (4*o)=3:=by
  have:=bN (4*o);omega
 have e:4*o / 4=o:=by omega
 have hs:(aG r.objs o).isSome:=by cases ho:aG r.objs o with
  | none=>exact absurd ho h
  | some _=>rfl
 rw [e,Rj ⟨hk,hs⟩]
def bG (r r':RH) (P:Int->Prop):Prop:=∀ k,P k->∀ x,aG r.objs k=some x->∃ y,aG r'.objs k=some y∧y.cls=x.cls∧y.fmt=x.fmt∧y.slots=x.slots
theorem bG.refl (r:RH) (P:Int->Prop):bG r r P:=fun k _ x hx=>⟨x,hx,rfl,rfl,rfl⟩
theorem bG.trans {r r' r'':RH}{P:Int->Prop} (h:bG r r' P) (h':bG r' r'' P):bG r r'' P:=fun k hk x hx=>by
 obtain ⟨y,h1,h2,h3,h4⟩:=h k hk x hx;obtain ⟨z,g1,g2,g3,g4⟩:=h' k hk y h1;exact ⟨z,g1,g2.trans h2,g3.trans h3,g4.trans h4⟩
theorem bG.mono {r r':RH}{P P':Int->Prop} (h:bG r r' P) (hp:∀ k,P' k->P k):bG r r' P':=fun k hk=>h k (hp k hk)
theorem eV.keep {r r':RH}{P:Int->Prop}{o:Int}{ws:List Int} (h:eV r o ws) (hk:bG r r' P) (hp:P o):eV r' o ws:=by
 obtain ⟨x,h1,h2,h3⟩:=h;obtain ⟨y,g1,_,g3,g4⟩:=hk o hp x h1;exact ⟨y,g1,g3.trans h2,g4.trans h3⟩
theorem iE {r:RH} (hw:WFH r) (cls n f:Int):bG r (r.alloc cls n f).2 fun _=>True:=by
 intro k _ x hx;unfold RH.alloc;split
 ·exact ⟨x,hx,rfl,rfl,rfl⟩
 split
 ·exact ⟨x,hx,rfl,rfl,rfl⟩
 split
 ·exact ⟨x,hx,rfl,rfl,rfl⟩
 split
 ·exact ⟨x,hx,rfl,rfl,rfl⟩
 ·refine ⟨x,?_,rfl,rfl,rfl⟩;rw [dZ,hx]
theorem jU {r:RH} (hw:WFH r){cls n f:Int} (h:(r.alloc cls n f).1.2=0):aG r.objs (r.alloc cls n f).1.1=none∧1<=(r.alloc cls n f).1.1∧(r.alloc cls n f).1.1<=65536∧0<=n∧n<=8192 ∧
  (f=0->eV (r.alloc cls n f).2 (r.alloc cls n f).1.1 (List.replicate n.toNat 4)):=by
 have C3:=hw.o1;unfold RH.alloc at h ⊢;split at h
 ·simp at h
 rename_i g1;split at h
 ·simp at h
 rename_i g2;split at h
 ·simp at h
 rename_i g3;split at h
 ·simp at h
 rename_i g4;have hl:=dm hw.objs hw.o1 (by omega);rw [Re g1,Re g2,Re g3,Re g4];refine ⟨hl.2.2.1,hl.1,by have:=hl.2.1;simp only;omega,by omega,by omega,fun hf=>?_⟩;subst hf;refine ⟨cY r cls n 0,?_,rfl,by simp [cY]⟩;simp only;rw [dZ,hl.2.2.1];simp [cY]
theorem iJ {r:RH} (k i w:Int):bG r (r.put k i w).2 fun j=>j≠k:=by
 intro j hj x hx;unfold RH.put;split
 ·exact ⟨x,hx,rfl,rfl,rfl⟩
 split
 ·exact ⟨x,hx,rfl,rfl,rfl⟩
 split
 ·exact ⟨x,hx,rfl,rfl,rfl⟩
 ·refine ⟨x,?_,rfl,rfl,rfl⟩;show aG (fS r.objs k (fA i w)) j=some x;rw [eC (f:=fA i w) (fun o=>rfl),hx]
  have:=(aN hx).2;simp only [SM];rw [Re (by omega)]
theorem lh {r:RH}{k:Int}{ws:List Int} (h:eV r k ws){i w:Int} (h0:0<=i) (h1:i<ws.length) (hw:d8 w):eV (r.put k i w).2 k (ws.set i.toNat w)∧(r.put k i w).1=0:=by
 obtain ⟨x,h2,h3,h4⟩:=h;subst h4;have hm:fF x.fmt w:=by unfold fF;rw [Re (by omega)];exact hw
 simp only [RH.put,h2];rw [Re (by omega),Re (by simpa using hm)];refine ⟨⟨fA i w x,?_,h3,rfl⟩,rfl⟩;show aG (fS r.objs k (fA i w)) k=some (fA i w x);rw [eC (f:=fA i w) (fun o=>rfl),h2]
 have:=(aN h2).2;simp [this]
theorem qM {at_:Int}{l:List RO}{k:Int}:∀ x,aG l k=some x->∃ y,aG (bS at_ l) k=some y∧y.cls=x.cls∧y.fmt=x.fmt∧y.slots=x.slots:=by
 induction l generalizing at_ with
 | nil=>intro x hx;cases hx
 | cons o l ih =>
  intro x hx;unfold aG at *;simp only [bS,S6] at hx ⊢;by_cases h:o.oop=k
  ·simp only [h,decide_true] at hx ⊢;cases hx;exact ⟨_,rfl,rfl,rfl,rfl⟩
  ·simp only [h,decide_false] at hx ⊢;exact ih x hx
theorem gL {r:RH} (l:List Int):bG r (r.keep l).2 fun k=>k∈l:=by
 intro k hk x hx;unfold RH.keep;split
 ·exact ⟨x,hx,rfl,rfl,rfl⟩
 ·simp only [RH.keepO];refine qM x ?_;unfold aG at hx ⊢;rw [List.find?_filter];have ho:=(aN (l:=r.objs) (k:=k) (o:=x) hx).2;rw [←hx]
  congr 1
  funext a
  by_cases h:a.oop=k
  ·simp [h,hk]
  ·simp [h]
theorem eG {r:RH} (k:Int):bG r (r.marks k).2 fun _=>True:=by
 intro j _ x hx;unfold RH.marks;split <;> exact ⟨x,hx,rfl,rfl,rfl⟩
theorem Reaches.mono {r r':RH}{ws ws':List Int} (hw:WFH r) (h:bG r r' (Reaches r ws)) (hs:∀ w∈ws,w∈ws'){k:Int} (hk:Reaches r ws k):Reaches r' ws' k:=by
 have hn:∀ {w:Int},bd r w≠0->Reaches r ws (bd r w)->bd r' w=bd r w:=by
  intro w c9 hr;have ht:=hr.there;cases ho:aG r.objs (bd r w) with
  | none=>exact absurd ho ht
  | some x =>
   obtain ⟨y,g1,_⟩:=h _ hr x ho;unfold bd at *;split at c9
   ·rename_i hc;rw [Rj hc] at g1;rw [Rj hc,Rj ⟨hc.1,by rw [g1];rfl⟩]
   ·exact absurd rfl c9
 induction hk with
 | @root w h1 h2 =>
  have hr:Reaches r ws (bd r w):=.root h1 h2;have e:=hn h2 hr;rw [←e];exact .root (hs w h1) (by rw [e];exact h2)
 | @cls o h1 h2 h3 ih =>
  have hr:Reaches r ws (bd r o.cls):=.cls h1 h2 h3;have e:=hn h3 hr;obtain ⟨y,g1,g2,g3,g4⟩:=h _ h1 o (cA hw.objs h2);have gy:=aN g1;rw [←e,←g2];rw [←gy.2] at ih;exact .cls ih gy.1 (by rw [g2,e];exact h3)
 | @slot o w h1 h2 h3 h4 h5 ih =>
  have hr:Reaches r ws (bd r w):=.slot h1 h2 h3 h4 h5;have e:=hn h5 hr;obtain ⟨y,g1,g2,g3,g4⟩:=h _ h1 o (cA hw.objs h2);have gy:=aN g1;rw [←e];rw [←gy.2] at ih;exact .slot ih gy.1 (g3.trans h3) (by rw [g4];exact h4) (by rw [e];exact h5)
theorem Reaches.arr {r:RH}{ws l:List Int}{o k:Int} (h:Reaches r ws o) (ha:eV r o l) (h0:1<=k) (h1:k<=65536) (hk:aG r.objs k≠none) (hm:4*k∈l):Reaches r ws k:=by
 obtain ⟨x,g1,g2,g3⟩:=ha;have gx:=aN g1;have e:=oe h0 h1 hk;rw [←gx.2] at h
 have:=Reaches.slot (w:=4*k) h gx.1 g2 (by rw [g3];exact hm) (by rw [e];omega);rw [e] at this;exact this
theorem Reaches.of_root {r:RH}{ws:List Int}{k:Int} (h0:1<=k) (h1:k<=65536) (hk:aG r.objs k≠none) (hm:4*k∈ws):Reaches r ws k:=by
 have e:=oe h0 h1 hk
 have:=Reaches.root (r:=r) (ws:=ws) (w:=4*k) hm (by rw [e];omega);rw [e] at this;exact this
theorem i8 {s:SP} (hw:WFH s.h):bG s.h s.collect.2.h (Reaches s.h s.roots):=by
 unfold SP.collect;split
 ·exact bG.refl _ _
 ·exact (gL _).mono fun k hk=>(RH.mem_reach hw).2 hk
theorem mE {s:SP} (hw:WFS s):WFS s.collect.2:=by
 unfold SP.collect;split
 ·exact hw
 ·exact { hw with h:=eu hw.h _ }
theorem jz (s:SP):s.collect.2.king=s.king∧s.collect.2.stack=s.stack∧s.collect.2.op=s.op:=by
 unfold SP.collect;split <;> exact ⟨rfl,rfl,rfl⟩
theorem kA (s:SP) (cls n f:Int):(s.alloc cls n f).2.king=s.king∧(s.alloc cls n f).2.stack=s.stack∧(s.alloc cls n f).2.op=s.op:=by
 unfold SP.alloc;split <;> exact ⟨rfl,rfl,rfl⟩
theorem nk {s:SP} (hw:WFS s) (cls n f:Int):WFS (s.alloc cls n f).2:=by
 unfold SP.alloc;split
 ·exact { hw with h:=gD hw.h _ _ _ }
 ·exact { hw with h:=gD (eu hw.h _) _ _ _ }
theorem jA {s:SP} (hw:WFS s) (cls n f:Int):bG s.h (s.alloc cls n f).2.h (Reaches s.h s.roots):=by
 unfold SP.alloc;split
 ·exact (iE hw.h _ _ _).mono fun _ _=>trivial
 ·exact ((gL _).mono fun k hk=>(RH.mem_reach hw.h).2 hk).trans ((iE (eu hw.h _) _ _ _).mono fun _ _=>trivial)
theorem ki {s:SP} (hw:WFS s){cls n:Int} (h:(s.alloc cls n 0).1.2=0):∃ o,(s.alloc cls n 0).1.1=4*o∧1<=o∧o<=65536∧0<=n∧n<=8192∧eV (s.alloc cls n 0).2.h o (List.replicate n.toNat 4)∧¬ Reaches s.h s.roots o:=by
 unfold SP.alloc at h ⊢;split at h
 ·rename_i hc;rw [Rj hc];obtain ⟨h1,h2,h3,h4,h5,h6⟩:=jU hw.h h;exact ⟨_,rfl,h2,h3,h4,h5,h6 rfl,fun hr=>hr.there h1⟩
 ·rename_i hc;rw [Re hc];obtain ⟨h1,h2,h3,h4,h5,h6⟩:=jU (eu hw.h _) h;refine ⟨_,rfl,h2,h3,h4,h5,h6 rfl,fun hr=>?_⟩;have ht:=hr.there;cases ho:aG s.h.objs ((s.h.keep s.reach).2.alloc cls n 0).1.1 with
  | none=>exact ht ho
  | some x =>
   obtain ⟨y,g1,_⟩:=gL s.reach _ ((RH.mem_reach hw.h).2 hr) x ho;rw [h1] at g1;cases g1
end Kw
