/- Lemmas for RPQ: functions of the program as predicate transformers, and their contracts. -/
import Derived.OrdersHeld
import Derived.Laws.Sem
import Derived.KernelRfl
import Derived.RangeFuncRecord
import Derived.TacticsIn
import Derived.Tactics
import Derived.Test.YtgjfejoohojokaaGreatDoorProg
import Derived.Laws.Strings
set_option linter.all false
set_option maxRecDepth 100000
set_option maxHeartbeats 4000000
namespace Kw
open Go
abbrev ae:=Array Obj
def aa (H:ae) (a:Addr):Option Value :=
 match H[a.block]? with
 | some (.cells c _ _)=>if a.spot.isSome then none else c[a.off]?
 | _=>none
def gR (H:ae) (r:Nat):Option (TypeId × Nat) :=
 match H[r]? with
 | some (.cells c elem _)=>some (elem,c.size)
 | _=>none
def kR (H:ae) (a:Addr):Bool :=
 match H[a.block]? with
 | some (.cells _ _ (lo,hi))=>lo<=a.off && a.off<hi
 | _=>false
def cN (H:ae) (a:Addr) (n:Nat):ae :=
 if n=0 then H else
 H.modify a.block fun
   | .cells c elem (lo,hi)=>.cells c elem (if lo == hi then (a.off,a.off+n) else (min lo a.off,max hi (a.off+n)))
   | o=>o
def av (H:ae) (a:Addr) (v:Value):ae :=
 H.modify a.block fun
   | .cells c elem frozen=>.cells (if a.spot.isSome then c else c.setIfInBounds a.off v) elem frozen
   | o=>o
def Wr (H:ae) (a:Addr):Prop:=(∃ v,aa H a=some v)∧kR H a=false
def dC:Value->Bool
 | .agg _ | .tuple _=>false
 | _=>true
def bV:Obj->Bool
 | .cells .. | .deferred _ | .loop _=>true
 | _=>false
def bM (H H':ae):Prop:=H.size<=H'.size∧∀ (b:Nat) (ds:Option (List Deferred)),H[b]?=some (Obj.deferred ds)->H'[b]?=some (Obj.deferred ds)
def bE (w w':World):Prop:=w'.tape=w.tape∧w'.os=w.os∧w'.output=w.output∧w.drawn<=w'.drawn∧bM w.heap w'.heap
def aK (P:Program){α:Type}:Sem α->(α->ae->Prop)->ae->Prop
 | .pure a,Q,H=>Q a H
 | .load _ a k,Q,H=>∃ v,aa H a=some v∧aK P (k v) Q H
 | .store _ a v k,Q,H=>dC v=true∧Wr H a∧aK P k Q (av H a v)
 | .new o k,Q,H=>aK P (k H.size) Q (H.push o)
 | .shape r k,Q,H=>aK P (k (gR H r)) Q H
 | .freeze a n k,Q,H=>aK P k Q (cN H a n)
 | .frozen a k,Q,H=>aK P (k (kR H a)) Q H
 | .getObj r k,Q,H=>∃ o,H[r]?=some o∧bV o=false∧aK P (k o) Q H
 | .setObj r o k,Q,H=>(∃ o',H[r]?=some o'∧bV o'=false)∧aK P k Q (H.setIfInBounds r o)
 | .choose q k,Q,H=>if q.forced then aK P (k 0) Q H else ∀ t,aK P (k (q.cut t)) Q H
 | .sys _ _,_,_=>False
 | .program k,Q,H=>aK P (k P) Q H
 | .mark _ k,Q,H=>aK P k Q H
 | .halt _,_,_=>False
def Bd (P:Program){α:Type}:Sem α->(α->Prop)->Prop
 | .pure a,k=>k a
 | .program c,k=>Bd P (c P) k
 | .mark _ c,k=>Bd P c k
 | _,_=>False
def lU (d:Option TypeDesc) (k:Value->Prop):Prop :=
 match d with
 | some (.int κ)=>∃ n:Int,k (.int κ n)
 | some .bool=>∃ b:Bool,k (.bool b)
 | some .string=>∃ s:ByteArray,k (.string s)
 | some (.pointer _)=>∃ p:Option Addr,k (.pointer p)
 | some (.slice _)=>∃(a:Option Addr) (l c:Nat),k (.slice a l c)
 | some (.map _ _)=>∃ r:Option Nat,k (.map r)
 | some (.func _ _ _)=>∃(f:Nat) (g h:Array Value),k (.func (.func f) g h)
 | _=>∃ v:Value,k v
def jv (d:Option TypeDesc) (k:Value->Prop):Prop :=
 match d with
 | some (.func _ _ _)=>(∃(f:Nat) (g h:Array Value),k (.func (.func f) g h))∨k .nilFunc
 | d=>lU d k
def LB:List (Option TypeDesc)->(List Value->Prop)->Prop
 | [],k=>k []
 | d :: r,k=>jv d fun v=>LB r fun vs=>k (v :: vs)
def pd (P:Program):Nat->TypeId->List (Option TypeDesc)
 | 0,_=>[]
 | n+1,t =>
  match P.underlying t with
  | some (.struct fs)=>fs.toList.flatMap fun f=>pd P n f.type
  | some (.array len e)=>(List.replicate len (pd P n e)).flatten
  | d=>[d]
def Fh (P:Program) (t:TypeId) (k:Value->Prop):Prop :=
 match P.underlying t with
 | some (.struct _) | some (.array _ _)=>LB (pd P 20 t) fun vs=>k (.agg vs.toArray)
 | d=>lU d k
def Cp (P:Program):List TypeId->(List Value->Prop)->Prop
 | [],k=>k []
 | t :: r,k=>Fh P t fun v=>Cp P r fun vs=>k (v :: vs)
def sg (P:Program) (t:TypeId) (v:Value) (k:Value->Prop):Prop :=
 match P.underlying t with
 | some (.tuple ts)=>Cp P ts.toList fun vs=>v=.tuple vs.toArray∧k (.tuple vs.toArray)
 | _=>Fh P t fun x=>v=x∧k x
def sD (H:ae) (ad:Addr):Nat->List (Option TypeDesc)->(List Value->List (Addr × Value)->Prop)->Prop
 | _,[],k=>k [] []
 | i,d :: r,k=>jv d fun v=>aa H (ad.add i)=some v∧sD H ad (i+1) r fun vs cs=>k (v :: vs) ((ad.add i,v) :: cs)
def lp (P:Program) (t:TypeId) (ad:Addr) (H:ae) (k:Value->List (Addr × Value)->Prop):Prop :=
 match P.underlying t with
 | some (.struct _) | some (.array _ _) =>
  match decide ((P.info? t).map (·.size)=some (pd P 20 t).length) with
  | true=>sD H ad 0 (pd P 20 t) fun vs cs=>k (.agg vs.toArray) cs
  | false=>False
 | d=>match d with
  | some _=>jv d fun v=>aa H ad=some v∧k v [(ad,v)]
  | none=>False
def ou (ad:Addr):Nat->List Value->(ae->Prop)->ae->Prop
 | _,[],k,H=>k H
 | i,v :: r,k,H =>
  match dC v with
  | true=>Wr H (ad.add i)∧ou ad (i+1) r k (av H (ad.add i) v)
  | false=>False
def oE (P:Program) (t:TypeId) (ad:Addr) (v:Value) (k:ae->Prop) (H:ae):Prop :=
 match decide ((P.info? t).map (·.size)=some v.cells.toList.length) with
 | true=>ou ad 0 v.cells.toList k H
 | false=>False
def ac (P:Program) (f:FuncId) (args:Array Value) (Q:Value->ae->Prop) (H:ae):Prop :=
 (∃ fn,P.funcs[f]?=some fn∧fn.body.isSome=true) ∧
 ∀ w:World,w.heap=H->Calls P f args w fun e w'=>∃ v,e=.returned v∧Q v w'.heap∧bE w w'
def Fk (k:Value->Prop):Next->Prop
 | .value v=>k v
 | _=>False
def gZ (P:Program) (t:TypeId):Nat:=((P.info? t).map (·.size)).getD 0
def Fy (P:Program) (t:TypeId):Bool :=
 match P.underlying t with
 | some (.struct _) | some (.array _ _) | none=>false
 | some _=>decide ((P.info? t).map (·.size)=some 1)
def gr (base:Option Addr) (cap:Nat) (l:Int) (size:Nat):Option Addr:=if cap=l.toNat then base else base.map (·.add (l.toNat*size))
def ja (k:IntKind) (x y:Int):Int:=k.wrap (BitVec.ofInt k.bits x &&& BitVec.ofInt k.bits y).toNat
def sy (k:IntKind) (x y:Int):Int:=k.wrap (BitVec.ofInt k.bits x ||| BitVec.ofInt k.bits y).toNat
def GE (k:IntKind) (x y:Int):Int:=k.wrap (BitVec.ofInt k.bits x ^^^ BitVec.ofInt k.bits y).toNat
def jq (k:IntKind) (x y:Int):Int:=k.wrap (BitVec.ofInt k.bits x &&& ~~~(BitVec.ofInt k.bits y)).toNat
def eA (k:IntKind) (x y:Int):Int:=k.wrap (x*2 ^ (min y.toNat k.bits))
def fe (k:IntKind) (x y:Int):Int:=x.fdiv (2 ^ (min y.toNat k.bits))
def cp (x y:ByteArray):Bool:=x.toList == y.toList
def eX (P:Program) (o:Oper) (ρ:Operand->Value) (k:Value->Prop):Prop :=
 match o.op with
 | .pick c x y =>
  match ρ c with
  | .bool b=>cond b (k (ρ x)) (k (ρ y))
  | _=>False
 | .nilCheck x =>
  match ρ x with
  | .pointer p=>∃ ad,p=some ad∧k (.pointer (some ad))
  | _=>Bd P (execOp ρ o) (Fk k)
 | .indexAddr t x i =>
  match P.underlying t,ρ x,ρ i with
  | some (.slice e),.slice base len _,.int _ i =>
   match (P.info? e).isSome with
   | true=>(0<=i∧i<len)∧∃ b,base=some b∧k (.pointer (some (b.add (i.toNat*gZ P e))))
   | false=>False
  | some (.array len e),.pointer (some b),.int _ i =>
   match (P.info? e).isSome with
   | true=>(0<=i∧i<(len:Int))∧k (.pointer (some (b.add (i.toNat*gZ P e))))
   | false=>False
  | _,_,_=>False
 | .index t x i =>
  match P.underlying t,ρ x,ρ i with
  | some .string,.string s,.int _ i=>∃ b:UInt8,(0<=i∧s[i.toNat]?=some b)∧k (.int .u8 b.toNat)
  | some (.array len e),.agg cs,.int _ i =>
   match Fy P e with
   | true=>(0<=i∧i<(len:Int))∧lU (P.underlying e) fun v=>cs[i.toNat]?=some v∧k v
   | false=>Bd P (execOp ρ o) (Fk k)
  | _,_,_=>False
 | .slice t x lo (some hi) (some mx) =>
  match P.underlying t,ρ x,ρ hi,ρ mx with
  | some (.slice e),.slice base _ cap,.int _ h,.int _ m =>
   match (P.info? e).isSome with
   | true =>
    match lo.map ρ with
    | none=>(((0<=m∧m<=(cap:Int))∧0<=h∧h<=m))∧k (.slice base h.toNat m.toNat)
    | some (.int _ l)=>(((0<=m∧m<=(cap:Int))∧0<=h∧h<=m)∧0<=l∧l<=h)∧k (.slice (gr base m.toNat l (gZ P e)) (h.toNat-l.toNat) (m.toNat-l.toNat))
    | _=>False
   | false=>False
  | _,_,_,_=>False
 | .slice t x lo hi none =>
  match P.underlying t,ρ x with
  | some (.slice e),.slice base len cap =>
   match (P.info? e).isSome with
   | true =>
    match lo.map ρ,hi.map ρ with
    | none,none=>k (.slice base len cap)
    | none,some (.int _ h)=>(0<=h∧h<=(cap:Int))∧k (.slice base h.toNat cap)
    | some (.int _ l),none=>(0<=l∧l<=(len:Int))∧k (.slice (gr base cap l (gZ P e)) (len-l.toNat) (cap-l.toNat))
    | some (.int _ l),some (.int _ h)=>((0<=h∧h<=(cap:Int))∧0<=l∧l<=h)∧k (.slice (gr base cap l (gZ P e)) (h.toNat-l.toNat) (cap-l.toNat))
    | _,_=>False
   | false=>False
  | some .string,.string s =>
   match lo.map ρ,hi.map ρ with
   | none,none=>k (.string (s.extract 0 s.size))
   | none,some (.int _ h)=>(0<=h∧h<=(s.size:Int))∧k (.string (s.extract 0 h.toNat))
   | some (.int _ l),none=>(0<=l∧l<=(s.size:Int))∧k (.string (s.extract l.toNat s.size))
   | some (.int _ l),some (.int _ h)=>((0<=h∧h<=(s.size:Int))∧0<=l∧l<=h)∧k (.string (s.extract l.toNat h.toNat))
   | _,_=>False
  | _,_=>False
 | .binOp op t x y _ =>
  match op,P.underlying t,ρ x,ρ y with
  | .eql,some (.pointer _),.pointer p,.pointer none=>k (.bool p.isNone)
  | .neq,some (.pointer _),.pointer p,.pointer none=>k (.bool (!p.isNone))
  | .eql,some (.slice _),.slice p _ _,.slice none _ _=>k (.bool p.isNone)
  | .neq,some (.slice _),.slice p _ _,.slice none _ _=>k (.bool (!p.isNone))
  | .eql,some (.map _ _),.map p,.map none=>k (.bool p.isNone)
  | .neq,some (.map _ _),.map p,.map none=>k (.bool (!p.isNone))
  | .quo,_,.int κ x,.int κ' y=>match decide (κ=κ') with
   | true=>cond (decide (y=0)) False (k (.int κ (κ.wrap (x.tdiv y))))
   | false=>False
  | .rem,_,.int κ x,.int κ' y=>match decide (κ=κ') with
   | true=>cond (decide (y=0)) False (k (.int κ (x.tmod y)))
   | false=>False
  | .shl,_,.int κ x,.int _ y=>cond (decide (y<0)) False (k (.int κ (eA κ x y)))
  | .shr,_,.int κ x,.int _ y=>cond (decide (y<0)) False (k (.int κ (fe κ x y)))
  | .add,_,.string x,.string y=>cond (decide (((x.size+y.size:Nat):Int) > IntKind.i64.max)) False (k (.string (x++y)))
  | _,_,_,_=>Bd P (execOp ρ o) (Fk k)
 | _=>Bd P (execOp ρ o) (Fk k)
def qA (P:Program) (o:Oper):Bool :=
 match o.op with
 | .move _ | .assign _ | .pick .. | .build .. | .nilCheck _ | .unOp .. | .makeInterface .. | .makeFunc .. | .slice .. | .fieldAddr .. | .field .. | .indexAddr .. | .index .. | .extract ..=>true
 | .binOp op t x y _ =>
  match P.underlying t with
  | some (.pointer _)=>(match y with | .const (.pointer none)=>true | _=>false)
  | some (.interface _) | some (.struct _) | some (.array _ _)=>false
  | _=>(match op,x with | _,_=>true)
 | .convert src dst _ =>
  match P.underlying src,P.underlying dst with
  | some (.slice _),some (.slice _)=>false
  | some (.slice _),_=>false
  | some .string,some (.slice _)=>false
  | _,_=>true
 | .call c =>
  match c.callee with
  | .builtin .len | .builtin .cap =>
   (match (c.argTypes[0]?).bind P.underlying with
    | some .string | some (.slice _) | some (.array _ _)=>true
    | _=>false)
  | .builtin .min | .builtin .max=>true
  | _=>false
 | _=>false
def KH (v:Value) (k:Value->Prop):Prop:=(v=.tuple #[.bool false]∧k (.tuple #[.bool false]))∨∃ x y:Value,v=.tuple #[.bool true,x,y]∧k (.tuple #[.bool true,x,y])
def o9 (P:Program) (o:Oper) (ρ:Operand->Value) (k:Value->ae->Prop) (H:ae):Prop :=
 match qA P o with
 | true=>eX P o ρ fun v=>k v H
 | false =>
  match o.op with
  | .load t x =>
   match ρ x with
   | .pointer (some ad)=>lp P t ad H fun v _=>k v H
   | _=>False
  | .store t x v =>
   match ρ x with
   | .pointer (some ad)=>oE P t ad (ρ v) (k undef) H
   | _=>False
  | .alloc e =>
   match (P.info? e).bind (·.zero) with
   | some z=>k (.pointer (some ⟨H.size,0,none⟩)) (H.push (.cells z.cells e))
   | none=>False
  | .box e x=>k (.pointer (some ⟨H.size,0,none⟩)) (H.push (.cells (ρ x).cells e))
  | .buildSlice t len parts=>aK P (Instr.buildSlice t len (parts.map fun (i,x)=>(i,ρ x))) k H
  | .makeMap _ none=>k (.map (some H.size)) (H.push (.map #[] 0))
  | .makeSlice t l c=>aK P (Instr.makeSlice t (ρ l) (ρ c)) (fun v H'=>sg P o.type v fun x=>k x H') H
  | .lookup t m key ok=>aK P (Instr.lookup t (ρ m) (ρ key) ok) (fun v H'=>sg P o.type v fun x=>k x H') H
  | .mapUpdate t m key x=>aK P (Instr.mapUpdate t (ρ m) (ρ key) (ρ x)) (fun _ H'=>k undef H') H
  | .insert t m key x=>aK P (Instr.mapUpdate t (ρ m) (ρ key) (ρ x)) (fun _ H'=>k undef H') H
  | .mapEntry t m key=>aK P (Instr.mapEntry t (ρ m) (ρ key)) (fun v H'=>k v H') H
  | .entryStore t m s x=>aK P (Instr.entryStore t (ρ m) (ρ s) (ρ x)) (fun _ H'=>k undef H') H
  | .range t x=>aK P (Instr.range t (ρ x)) k H
  | .next it s=>aK P (Instr.next (ρ it) s o.type) (fun v H'=>KH v fun x=>k x H') H
  | .convert src dst x=>aK P (convert src dst (ρ x)) (fun v H'=>sg P o.type v fun x=>k x H') H
  | .binOp op t x y _=>aK P (do eqGuard op t x y (ρ x) (ρ y);binOp op t (ρ x) (ρ y)) (fun v H'=>sg P o.type v fun x=>k x H') H
  | .call c =>
   match c.callee with
   | .value f =>
    match ρ f with
    | .func (.func g) first cap=>ac P g ((first++c.args.map ρ)++cap) (fun v H'=>sg P o.type v fun x=>k x H') H
    | _=>False
   | .builtin .append=>aK P (Builtin.append_ c.argTypes o.type (c.args.map ρ)) (fun v H'=>sg P o.type v fun x=>k x H') H
   | .builtin .copy=>aK P (Builtin.copy_ c.argTypes o.type (c.args.map ρ)) (fun v H'=>sg P o.type v fun x=>k x H') H
   | .builtin .clear=>aK P (Builtin.clear_ c.argTypes o.type (c.args.map ρ)) k H
   | .builtin .delete=>aK P (Builtin.delete_ c.argTypes o.type (c.args.map ρ)) k H
   | .builtin .len=>aK P (Builtin.len_ c.argTypes o.type (c.args.map ρ)) (fun v H'=>sg P o.type v fun x=>k x H') H
   | .builtin .unsafeSliceData=>aK P (Builtin.unsafeSliceData_ c.argTypes o.type (c.args.map ρ)) (fun v H'=>sg P o.type v fun x=>k x H') H
   | .builtin .unsafeString=>aK P (Builtin.unsafeString_ c.argTypes o.type (c.args.map ρ)) (fun v H'=>sg P o.type v fun x=>k x H') H
   | _=>False
  | _=>False
def iX (ops:Array Oper) (o:Oper) (a:Act) (yes no:Act->Prop):Prop :=
 match o.guard with
 | none=>yes a
 | some (j,want) =>
  match (ops[j]?).bind (·.dst) with
  | none=>no a
  | some d =>
   match a.tmps[d]? with
   | some (.bool b) =>
    cond b (match want with | true=>yes (a.put (some d) (.bool true)) | false=>no (a.put (some d) (.bool true)))
     (match want with | true=>no (a.put (some d) (.bool false)) | false=>yes (a.put (some d) (.bool false)))
   | some (.tuple _)=>no a
   | none=>no a
   | _=>False
def fA (P:Program) (l:Nat) (args:Array Value) (Q:Value->ae->Prop) (H:ae):Prop :=
 ∀ w:World,w.heap=H->∃ fn tmps assign body,(Instr.yield l args).run P w=.ok (.round l fn tmps assign body) w ∧
  RoundIn Fence.wide 0 P l fn tmps assign body w fun e w'=>∃ v,e=.returned v∧Q v w'.heap∧bE w w'
def A9 (ops:Array Oper) (d:Option Tmp) (i:Nat):Option TypeId :=
 (ops.toList.find? fun q=>match q.op with
  | .extract (.tmp t) j=>decide (some t=d) && decide (j=i)
  | _=>false).map (·.type)
def CL (P:Program) (t:Option TypeId) (k:Value->Prop):Prop :=
 match t with
 | some t=>Fh P t k
 | none=>∃ v:Value,k v
def rB (P:Program) (ops:Array Oper) (o:Oper) (a:Act) (k:Act->ae->Prop) (H:ae):Prop :=
 match o.op with
 | .defer c =>
  match c.callee with
  | .value f =>
   match a.eval f with
   | .func (.func g) first cap=>k ({ a with defers:=⟨.fn (.func g) cap,first++c.args.map a.eval⟩ :: a.defers }.put o.dst undef) H
   | _=>False
  | _=>False
 | .entry it=>aK P (Instr.entry (a.eval it)) (fun v H'=>CL P (A9 ops o.dst 0) fun x=>CL P (A9 ops o.dst 1) fun y=>v=.tuple #[x,y]∧k (a.put o.dst (.tuple #[x,y])) H') H
 | .call c =>
  match c.callee with
  | .value f =>
   match a.eval f with
   | .func (.yield l) first _=>fA P l (first++c.args.map a.eval) (fun v H'=>sg P o.type v fun x=>k (a.put o.dst x) H') H
   | _=>o9 P o a.eval (fun v H'=>k (a.put o.dst v) H') H
  | _=>o9 P o a.eval (fun v H'=>k (a.put o.dst v) H') H
 | _=>o9 P o a.eval (fun v H'=>k (a.put o.dst v) H') H
def sI (P:Program) (ops:Array Oper) (Q:Act->ae->Prop):List Oper->Act->ae->Prop
 | [],a,H=>Q a H
 | o :: rest,a,H =>
  iX ops o a (fun a=>rB P ops o a (fun a' H'=>sI P ops Q rest a' H') H) (fun a=>sI P ops Q rest (a.put o.dst undef) H)
def ju (ops:Array Oper) (i:Nat):List Nat :=
 match ops[i]? with
 | some o=>(o.after.toList.filter (Region.binds .any)).map (·.on)
 | none=>[]
def tc (ops:Array Oper):Nat->List Nat->List Nat
 | 0,acc=>acc
 | p+1,acc=>tc ops p (if acc.contains p then ju ops p++acc else acc)
def FY (ops:Array Oper) (i:Nat):List Nat:=tc ops i (ju ops i)
def fx:List (Addr × Value)->ae->Prop
 | [],_=>True
 | (a,v) :: r,H=>aa H a=some v∧fx r H
def Holds:List (Nat × List (Addr × Value))->ae->Prop
 | [],_=>True
 | (_,l) :: r,H=>fx l H∧Holds r H
def jK (ops:Array Oper) (i:Nat) (held:List (Nat × List (Addr × Value))):List (Nat × List (Addr × Value)):=held.filter fun h=>!(FY ops i).contains h.1
def yV (P:Program) (o:Oper):Bool:=qA P o || (match o.op with | .load ..=>true | _=>false)
def qZ:List Nat->(Nat->Prop)->Prop
 | [],_=>True
 | [i],p=>p i
 | i :: r,p=>p i∧qZ r p
def zi (P:Program) (ops:Array Oper) (listed:Array Bool):Option Nat :=
 (Region.ready .any ops listed).find? fun i=>((ops[i]?).map (yV P)).getD false
def eW (P:Program) (ops:Array Oper) (Q:Act->ae->Prop):Nat->Array Bool->List (Nat × List (Addr × Value))->Act->ae->Prop
 | 0,listed,_,a,H=>match (Region.ready .any ops listed).isEmpty with
  | true=>Q a H
  | false=>False
 | n+1,listed,held,a,H =>
  match zi P ops listed with
  | some i =>
   match Region.free .any ops listed i,ops[i]? with
   | true,some o =>
    iX ops o a
     (fun a =>
      match qA P o with
      | true=>eX P o a.eval fun v=>eW P ops Q n (listed.setIfInBounds i true) held (a.put o.dst v) H
      | false =>
       match o.op with
       | .load t x =>
        match a.eval x with
        | .pointer (some ad)=>lp P t ad H fun v cs=>eW P ops Q n (listed.setIfInBounds i true) ((i,cs) :: held) (a.put o.dst v) H
        | _=>False
       | _=>False)
     (fun a=>eW P ops Q n (listed.setIfInBounds i true) held (a.put o.dst undef) H)
   | _,_=>False
  | none =>
   match Region.ready .any ops listed with
   | []=>Q a H
   | rs=>qZ rs fun i =>
    match ops[i]? with
    | some o =>
     iX ops o a
      (fun a=>o9 P o a.eval (fun v H'=>Holds (jK ops i held) H'∧eW P ops Q n (listed.setIfInBounds i true) (jK ops i held) (a.put o.dst v) H') H)
      (fun a=>eW P ops Q n (listed.setIfInBounds i true) (jK ops i held) (a.put o.dst undef) H)
    | none=>False
def gm:Code->Nat
 | .region id _ _=>id
 | .seq a b=>(match a with | .skip=>gm b | _=>gm a)
 | .cond _ a _=>gm a
 | .block _ b=>gm b
 | .loop b=>gm b
 | _=>1000000
def co:Code->List Nat
 | .region _ ops _=>ops.toList.filterMap (·.dst)
 | .seq a b=>co a++co b
 | .cond _ a b=>co a++co b
 | .block _ b=>co b
 | .loop b=>co b
 | _=>[]
def dz (o:Oper):Bool:=match o.op with | .defer _=>true | _=>false
def bi:Code->Bool
 | .region _ ops _=>ops.toList.all fun o=>!dz o
 | .seq a b=>bi a && bi b
 | .cond _ a b=>bi a && bi b
 | .block _ b=>bi b
 | .loop b=>bi b
 | .rangeFunc ..=>true
 | .skip | .label _ | .exit _ | .ret=>true
 | _=>false
def bY:Code->Bool
 | .region _ _ draw=>!draw
 | .seq a b=>bY a && bY b
 | .cond _ a b=>bY a && bY b
 | .block _ b=>bY b
 | .loop b=>bY b
 | .skip | .label _ | .exit _ | .ret=>true
 | _=>false
def bC:Code->Bool
 | .region ..=>true
 | .seq a b=>bC a && bC b
 | .cond _ a b=>bC a && bC b
 | .block _ b=>bC b
 | .loop b=>bC b
 | .skip | .label _ | .exit _ | .ret=>true
 | _=>false
def nR (a:Act) (ws:List Nat) (g:Nat->Value):Act:=ws.foldl (fun a i=>a.put (some i) (g i)) a
def oo (P:Program):List (Nat × TypeId)->(List (Nat × Value)->Prop)->Prop
 | [],k=>k []
 | (t,ty) :: r,k=>Fh P ty fun v=>oo P r fun ps=>k ((t,v) :: ps)
def ly (a:Act) (ps:List (Nat × Value)):Act:=ps.foldl (fun a p=>a.put (some p.1) p.2) a
def de (a:Act) (L:List (Nat × TypeId)):List Value:=L.map fun p=>a.tmps.getD p.1 undef
abbrev lZ:=Exit->Act->ae->Prop
def wE (K:Act->ae->Prop) (Q:lZ):lZ
 | .normal,a,H=>K a H
 | e,a,H=>Q e a H
def oQ (id:Nat) (Q:lZ):lZ
 | .exit id',a,H=>match decide (id'=id) with
  | true=>Q .normal a H
  | false=>Q (.exit id') a H
 | e,a,H=>Q e a H
abbrev uC:=Nat->Option (List (Nat × TypeId))
def ld (P:Program) (ws:List Nat) (L:List (Nat × TypeId)) (a:Act) (K:Act->ae->Prop) (vs:List Value) (H:ae):Prop :=
 ∀ g:Nat->Value,oo P L fun ps=>vs=ps.map (·.2)∧K (ly (nR a ws g) ps) H
def hE (fn:FuncId) (tmps:Array Value) (ps:Array Tmp) (assign body:Code) (D:Nat):Loop:={ state:=.ready,pending:=none,fn,tmps,params:=ps,assign,body,defers:=D }
def sm:List (Nat × (ae->Prop))->Nat->ae->Prop
 | [],_,_=>False
 | (i,K) :: r,id,H=>match decide (id=i) with
  | true=>K H
  | false=>sm r id H
def dU:Code->List Nat
 | .seq a b=>dU a++dU b
 | .cond _ a b=>dU a++dU b
 | .block i b=>(dU b).filter (· != i)
 | .loop b=>dU b
 | .exit i=>[i]
 | _=>[]
def lx (l:Nat) (Kn Kr:ae->Prop) (Ke:List (Nat × (ae->Prop))) (H2:ae):Prop :=
 ∃ r:Loop,H2[l]?=some (.loop r)∧r.state≠.busy ∧
  match r.pending with
  | none=>Kn (H2.setIfInBounds l (.loop { r with state:=.exhausted }))
  | some .ret=>Kr (H2.setIfInBounds l (.loop { r with state:=.exhausted }))
  | some (.exit id)=>sm Ke id (H2.setIfInBounds l (.loop { r with state:=.exhausted }))
  | _=>False
def eV:Code->List (Array Tmp × Code × Code)
 | .seq a b=>eV a++eV b
 | .cond _ a b=>eV a++eV b
 | .block _ b=>eV b
 | .loop b=>eV b
 | .rangeFunc _ ps a b=>[(ps,a,b)]
 | _=>[]
def ik (P:Program) (f:FuncId) (k:Nat):Array Tmp × Code × Code :=
 match (P.funcs[f]?).bind (·.body) with
 | some c=>(eV c).getD k (#[],.skip,.skip)
 | none=>(#[],.skip,.skip)
def wB (l:Nat) (Q:Value->ae->Prop):lZ
 | .normal,_,H=>∃ r:Loop,H[l]?=some (.loop r)∧Q (.bool true) (H.setIfInBounds l (.loop { r with state:=.ready,pending:=none }))
 | .ret,_,H=>∃ r:Loop,H[l]?=some (.loop r)∧Q (.bool false) (H.setIfInBounds l (.loop { r with state:=.done,pending:=some .ret }))
 | .exit id,_,H=>∃ r:Loop,H[l]?=some (.loop r)∧Q (.bool false) (H.setIfInBounds l (.loop { r with state:=.done,pending:=some (.exit id) }))
 | _,_,_=>False
def xg (l:Nat) (K:Act->ae->Prop):lZ
 | .normal,a,H=>∃ r:Loop,H[l]?=some (.loop r)∧r.state=.ready∧K a (H.setIfInBounds l (.loop { r with state:=.busy }))
 | _,_,_=>False
def ev (P:Program) (Ls:uC):Code->lZ->Act->ae->Prop
 | .skip,Q,a,H=>Q .normal a H
 | .label _,Q,a,H=>Q .normal a H
 | .region _ ops draw,Q,a,H =>
  match draw with
  | false=>sI P ops (Q .normal) ops.toList a H
  | true =>
   match Region.noSelect ops with
   | true=>eW P ops (Q .normal) ops.size (Array.replicate ops.size false) [] a H
   | false=>False
 | .seq x y,Q,a,H =>
  match Ls (1000+gm y) with
  | none=>ev P Ls x (wE (ev P Ls y Q) Q) a H
  | some L =>
   match bi x with
   | true=>∃ J:List Value->ae->Prop,ev P Ls x (wE (fun a' H'=>J (de a' L) H') Q) a H ∧
    ∀ vs H',J vs H'->ld P (co x) L a (ev P Ls y Q) vs H'
   | false=>False
 | .cond c x y,Q,a,H =>
  match a.eval c with
  | .bool b =>
   match c with
   | .tmp t=>cond b (ev P Ls x Q (a.put (some t) (.bool true)) H) (ev P Ls y Q (a.put (some t) (.bool false)) H)
   | _=>cond b (ev P Ls x Q a H) (ev P Ls y Q a H)
  | _=>False
 | .block id b,Q,a,H=>ev P Ls b (oQ id Q) a H
 | .loop b,Q,a,H =>
  match Ls (gm b) with
  | none=>False
  | some L =>
   match bi b with
   | true=>∃(I:List Value->ae->Prop) (μ:List Value->ae->Nat),I (de a L) H ∧
    ∀ vs H',I vs H'->ld P (co b) L a (ev P Ls b (wE (fun a' H''=>I (de a' L) H''∧μ (de a' L) H''<μ vs H') Q)) vs H'
   | false=>False
 | .exit id,Q,a,H=>Q (.exit id) a H
 | .ret,Q,a,H=>Q .ret a H
 | .rangeFunc g ps assign body,Q,a,H =>
  match a.eval g with
  | .func (.func gf) first lb=>∀ fn:FuncId,ac P gf ((first++#[.func (.yield (H.size+1)) #[] #[]])++lb) (fun _ H2=>lx (H.size+1) (Q .normal a) (Q .ret a) ((dU body).map fun i=>(i,Q (.exit i) a)) H2)
    ((H.push (.deferred (some []))).push (.loop (hE fn a.tmps ps assign body H.size)))
  | _=>False
 | .scope _,_,_,_=>False
 | .goto _,_,_,_=>False
 | .refuse _,_,_,_=>False
def my (P:Program) (a:Act) (H:ae):List ResultVar->(List Value->Prop)->Prop
 | [],k=>k []
 | .tmp t :: r,k=>my P a H r fun vs=>k (a.tmps.getD t undef :: vs)
 | .cell x t :: r,k =>
  match a.tmps.getD x undef with
  | .pointer (some ad)=>lp P t ad H fun v _=>my P a H r fun vs=>k (v :: vs)
  | _=>False
def LD (P:Program) (fn:Func) (Q:Value->ae->Prop):lZ
 | .normal,a,H | .ret,a,H=>my P a H fn.results.toList fun vs=>match vs with
  | [v]=>Q v H
  | vs=>Q (.tuple vs.toArray) H
 | _,_,_=>False
def qW (P:Program) (f:FuncId) (args:Array Value) (Q:ae->Prop) (H:ae):Prop :=
 (∃ fn,P.funcs[f]?=some fn∧fn.body.isSome=true) ∧
 ∀ (w:World) (u:FrameMode),w.heap=H->CallsDIn Fence.wide 0 P f args u w fun e u' w'=>u'=u∧(∃ v,e=.returned v)∧Q w'.heap∧bE w w'
def gD (n:Nat) (H H':ae):Prop:=H'.size=H.size∧∀ b,H'[b]?=H[b]?∨(n<=b∧H[b]?=some (.deferred (some []))∧H'[b]?=some (.deferred none))
def gb (P:Program) (fn:Func) (m:Bool) (n:Nat) (tmps:Array Value) (Q:Value->ae->Prop):List Deferred->ae->Prop
 | [],H =>
  match m with
  | true=>∀ H',gD n H H'->my P ⟨tmps,[]⟩ H' fn.results.toList fun vs=>match vs with
   | [v]=>Q v H'
   | vs=>Q (.tuple vs.toArray) H'
  | false=>my P ⟨tmps,[]⟩ H fn.results.toList fun vs=>match vs with
   | [v]=>Q v H
   | vs=>Q (.tuple vs.toArray) H
 | d :: ds,H =>
  match d.target with
  | .fn (.func g) cap =>
   match m with
   | true=>∀ H',gD n H H'->qW P g (d.args++cap) (fun H''=>gb P fn m n tmps Q ds H'') H'
   | false=>qW P g (d.args++cap) (fun H''=>gb P fn m n tmps Q ds H'') H
  | _=>False
def Ln (P:Program) (fn:Func) (m:Bool) (n:Nat) (Q:Value->ae->Prop):lZ
 | .normal,a,H | .ret,a,H=>gb P fn m n a.tmps Q a.defers H
 | _,_,_=>False
def lB (fn:Func) (args:Array Value):Act:={ tmps:=args++Array.replicate (fn.ntmps-args.size) undef,defers:=[] }
structure GoodPg (P:Program):Prop where
 mixed:P.follows .mixedOrders=true
 names : P.funcs.all (fun fn => fn.name != "runtime.NumGoroutine") = true
end Kw
namespace Kw
open Go
theorem bM.refl (H:ae):bM H H:=⟨Nat.le_refl _,fun _ _ h=>h⟩
theorem bM.trans {H H' H'':ae} (h:bM H H') (h':bM H' H''):bM H H'':=⟨Nat.le_trans h.1 h'.1,fun b ds hb=>h'.2 b ds (h.2 b ds hb)⟩
theorem bM.push (H:ae) (o:Obj):bM H (H.push o):=⟨by simp,fun b ds hb=>by
 have hlt:b<H.size:=(Array.getElem?_eq_some_iff.1 hb).1
 rw [Array.getElem?_push,if_neg (by omega)];exact hb⟩
theorem bM.set (H:ae) (a:Addr) (v:Value):bM H (av H a v):=⟨by simp [av],fun b ds hb=>by
 unfold av
 rw [Array.getElem?_modify]
 split
 ·rw [hb];rfl
 ·exact hb⟩
theorem bM.freeze (H:ae) (a:Addr) (n:Nat):bM H (cN H a n):=⟨by unfold cN;split <;> simp,fun b ds hb=>by
 unfold cN
 split
 ·exact hb
 ·rw [Array.getElem?_modify]
  split
  ·rw [hb];rfl
  ·exact hb⟩
theorem bM.setObj {H:ae}{r:Nat}{o o':Obj} (h1:H[r]?=some o') (h2:∀ ds,o'≠.deferred ds):bM H (H.setIfInBounds r o):=⟨by simp,fun b ds hb=>by
 have hne:r≠b:=fun e=>by subst e;rw [h1] at hb;exact h2 ds (Option.some.inj hb)
 rw [Array.getElem?_setIfInBounds_ne hne];exact hb⟩
theorem bE.refl (w:World):bE w w:=⟨rfl,rfl,rfl,Nat.le_refl _,bM.refl _⟩
theorem bE.trans {w w' w'':World} (h:bE w w') (h':bE w' w''):bE w w'':=⟨h'.1.trans h.1,h'.2.1.trans h.2.1,h'.2.2.1.trans h.2.2.1,Nat.le_trans h.2.2.2.1 h'.2.2.2.1,h.2.2.2.2.trans h'.2.2.2.2⟩
theorem bE.heap {w:World}{H':ae} (h:bM w.heap H'):bE w { w with heap:=H' }:=⟨rfl,rfl,rfl,Nat.le_refl _,h⟩
theorem jI (P:Program){α:Type} (m:Sem α):∀ (Q:α->ae->Prop) (w:World),aK P m Q w.heap->∃ a w',m.run P w=.ok a w'∧Q a w'.heap∧bE w w':=by
 induction m with
 | pure a=>exact fun Q w h=>⟨a,w,rfl,h,bE.refl w⟩
 | load m a k ih =>
  rintro Q w ⟨v,hv,h⟩
  obtain ⟨b,w',hr,hq⟩:=ih v Q w h
  exact ⟨b,w',by simp only [Sem.run,show w.cell? a=some v from hv];exact hr,hq⟩
 | store m a v k ih =>
  rintro Q w ⟨h1,⟨⟨v0,h2⟩,h3⟩,h⟩
  obtain ⟨b,w',hr,hq,hs⟩:=ih Q (w.setCell a v) h
  refine ⟨b,w',?_,hq,(bE.heap (w:=w) (bM.set w.heap a v)).trans hs⟩
  have e2:w.cell? a=some v0:=h2
  have e3:w.frozen? a=false:=h3
  cases v <;> simp only [dC,Bool.false_eq_true] at h1 <;> simp only [Sem.run,e2,e3,Bool.false_eq_true,if_false] <;> exact hr
 | new o k ih =>
  intro Q w h
  obtain ⟨b,w',hr,hq,hs⟩:=ih w.heap.size Q { w with heap:=w.heap.push o } h
  exact ⟨b,w',hr,hq,(bE.heap (w:=w) (bM.push w.heap o)).trans hs⟩
 | shape r k ih=>exact fun Q w h=>ih _ Q w h
 | freeze a n k ih =>
  intro Q w h
  have hh:(w.freeze a n).heap=cN w.heap a n:=by unfold World.freeze cN;split <;> rfl
  have hs':bE w (w.freeze a n):=⟨by unfold World.freeze;split <;> rfl,by unfold World.freeze;split <;> rfl,by unfold World.freeze;split <;> rfl,by unfold World.freeze;split <;> exact Nat.le_refl _,by rw [hh];exact bM.freeze _ _ _⟩
  obtain ⟨b,w',hr,hq,hs⟩:=ih Q (w.freeze a n) (by rw [hh];exact h)
  exact ⟨b,w',hr,hq,hs'.trans hs⟩
 | frozen a k ih=>exact fun Q w h=>ih _ Q w h
 | getObj r k ih =>
  rintro Q w ⟨o,h1,h2,h⟩
  obtain ⟨b,w',hr,hq⟩:=ih o Q w h
  refine ⟨b,w',?_,hq⟩
  cases o <;> simp only [bV,Bool.true_eq_false] at h2 <;> simp only [Sem.run,h1] <;> exact hr
 | setObj r o k ih =>
  rintro Q w ⟨⟨o',h1,h2⟩,h⟩
  obtain ⟨b,w',hr,hq,hs⟩:=ih Q { w with heap:=w.heap.setIfInBounds r o } h
  refine ⟨b,w',?_,hq,(bE.heap (w:=w) (bM.setObj h1 fun ds e=>by rw [e] at h2;cases h2)).trans hs⟩
  cases o' <;> simp only [bV,Bool.true_eq_false] at h2 <;> simp only [Sem.run,h1] <;> exact hr
 | choose q k ih =>
  intro Q w h
  simp only [aK] at h
  split at h
  ·rename_i hf
   obtain ⟨b,w',hr,hq⟩:=ih 0 Q w h
   exact ⟨b,w',by simp only [Sem.run,hf,if_true];exact hr,hq⟩
  ·rename_i hf
   obtain ⟨b,w',hr,hq,hs⟩:=ih _ Q { w with drawn:=w.drawn+1 } (h (w.tape w.drawn q))
   exact ⟨b,w',by simp only [Sem.run,hf];exact hr,hq,hs.1,hs.2.1,hs.2.2.1,Nat.le_trans (Nat.le_succ _) hs.2.2.2.1,hs.2.2.2.2⟩
 | sys c k ih=>exact fun Q w h=>h.elim
 | program k ih=>exact fun Q w h=>ih P Q w h
 | mark m k ih=>exact fun Q w h=>ih Q w h
 | halt h=>exact fun Q w h=>h.elim
theorem uI (P:Program){α:Type} (m:Sem α):∀ (k:α->Prop),Bd P m k->∃ a,k a∧∀ w,m.run P w=.ok a w:=by
 induction m with
 | pure a=>exact fun k h=>⟨a,h,fun _=>rfl⟩
 | program c ih=>exact fun k h=>ih P k h
 | mark m c ih=>exact fun k h=>ih k h
 | _=>exact fun k h=>h.elim
theorem gJ {d:Option TypeDesc}{k:Value->Prop} (h:lU d k):∃ v,k v:=by
 unfold lU at h
 split at h
 ·obtain ⟨_,h⟩:=h;exact ⟨_,h⟩
 ·obtain ⟨_,h⟩:=h;exact ⟨_,h⟩
 ·obtain ⟨_,h⟩:=h;exact ⟨_,h⟩
 ·obtain ⟨_,h⟩:=h;exact ⟨_,h⟩
 ·obtain ⟨_,_,_,h⟩:=h;exact ⟨_,h⟩
 ·obtain ⟨_,h⟩:=h;exact ⟨_,h⟩
 ·obtain ⟨_,_,_,h⟩:=h;exact ⟨_,h⟩
 ·exact h
theorem fT {d:Option TypeDesc}{k:Value->Prop} (h:jv d k):∃ v,k v:=by
 unfold jv at h
 split at h
 ·rcases h with ⟨f,g,c,h⟩ | h
  ·exact ⟨_,h⟩
  ·exact ⟨_,h⟩
 ·exact gJ h
theorem lq:∀ {l:List (Option TypeDesc)}{k:List Value->Prop},LB l k->∃ vs,k vs
 | [],_,h=>⟨[],h⟩
 | _ :: _,_,h=>let ⟨_,h⟩:=fT h;let ⟨_,h⟩:=lq h;⟨_,h⟩
theorem jc {P:Program}{t:TypeId}{k:Value->Prop} (h:Fh P t k):∃ v,k v:=by
 unfold Fh at h
 split at h
 ·obtain ⟨_,h⟩:=lq h;exact ⟨_,h⟩
 ·obtain ⟨_,h⟩:=lq h;exact ⟨_,h⟩
 ·exact gJ h
theorem nb {P:Program}:∀ {l:List TypeId}{k:List Value->Prop},Cp P l k->∃ vs,k vs
 | [],_,h=>⟨[],h⟩
 | _ :: _,_,h=>let ⟨_,h⟩:=jc h;let ⟨_,h⟩:=nb h;⟨_,h⟩
theorem pW {P:Program}{t:TypeId}{v:Value}{k:Value->Prop} (h:sg P t v k):k v:=by
 unfold sg at h
 split at h
 ·obtain ⟨vs,hv,hk⟩:=nb h;rw [hv];exact hk
 ·obtain ⟨x,hv,hk⟩:=jc h;rw [hv];exact hk
theorem lX {H:ae}{ad:Addr}:∀ {l:List (Option TypeDesc)}{i:Nat}{k:List Value->List (Addr × Value)->Prop},sD H ad i l k ->
  ∃ vs cs,k vs cs∧vs.length=l.length∧fx cs H∧∀ H',fx cs H'->∀ j v,vs[j]?=some v->aa H' (ad.add (i+j))=some v
 | [],_,_,h=>⟨[],[],h,rfl,trivial,fun _ _ j v hv=>by simp at hv⟩
 | d :: r,i,k,h=>by
  obtain ⟨v,hv,h⟩:=fT h
  obtain ⟨vs,cs,hk,hl,hc,hall⟩:=lX h
  refine ⟨_,_,hk,by simp [hl],⟨hv,hc⟩,fun H' ⟨h1,h2⟩ j u hu=>?_⟩
  cases j with
  | zero=>simp at hu;subst hu;exact h1
  | succ j=>simp at hu;rw [show i+(j+1)=i+1+j by omega];exact hall H' h2 j u hu
theorem jw (P:Program) (a:Addr) (vs:List Value):∀ (i:Nat) (acc:Array Value) (w:World),
  (∀ j v,vs[j]?=some v->w.cell? (a.add (i+j))=some v)->(loadCellsFrom a i vs.length acc).run P w=.ok (acc++vs.toArray) w:=by
 induction vs with
 | nil=>intro i acc w _;simp [loadCellsFrom]
 | cons v r ih =>
  intro i acc w h
  have h0:=h 0 v rfl
  simp only [List.length_cons,loadCellsFrom,Sem.run_bind,run_load]
  rw [show a.add i=a.add (i+0) from rfl,h0]
  simp only [Result.andThen_ok]
  rw [ih (i+1) (acc.push v) w (fun j u hu=>by rw [show i+1+j=i+(j+1) by omega];exact h (j+1) u (by simpa using hu))]
  simp
theorem aE {P:Program}{t:TypeId}{d:TypeDesc} (h:P.underlying t=some d) (w:World):(underlying t).run P w=.ok d w:=by
 simp [underlying,h]
theorem iF {P:Program}{t:TypeId}{i:TypeInfo} (h:P.info? t=some i) (w:World):(typeInfo t).run P w=.ok i w:=by
 simp [typeInfo,h]
theorem bI {P:Program}{t:TypeId}{i:TypeInfo} (h:P.info? t=some i) (w:World):(Go.sizeOf t).run P w=.ok i.size w:=by
 simp [Go.sizeOf,iF h]
theorem gL {P:Program}{t:TypeId}{ad:Addr}{H:ae}{k:Value->List (Addr × Value)->Prop} (h:lp P t ad H k) :
  ∃ v cs,k v cs∧fx cs H∧∀ w:World,fx cs w.heap->(loadVar t ad).run P w=.ok v w:=by
 have agg:∀ (d:TypeDesc),P.underlying t=some d->(match d with | .struct _ | .array _ _=>true | _=>false)=true ->
   (match decide ((P.info? t).map (·.size)=some (pd P 20 t).length) with
   | true=>sD H ad 0 (pd P 20 t) fun vs cs=>k (.agg vs.toArray) cs
   | false=>False)->∃ v cs,k v cs∧fx cs H∧∀ w:World,fx cs w.heap->(loadVar t ad).run P w=.ok v w:=by
  intro d hd hag h
  split at h
  ·rename_i hs
   have hs:=of_decide_eq_true hs
   obtain ⟨i,hi,hsz⟩:∃ i,P.info? t=some i∧i.size=(pd P 20 t).length:=by
    cases hi:P.info? t with
    | none=>simp [hi] at hs
    | some i=>simp [hi] at hs;exact ⟨i,rfl,hs⟩
   obtain ⟨vs,cs,hk,hl,hc,hall⟩:=lX h
   refine ⟨_,_,hk,hc,fun w hw=>?_⟩
   have hia:(isAgg t).run P w=.ok true w:=by
    simp only [isAgg,Sem.run_bind,aE hd,Result.andThen_ok]
    cases d <;> simp at hag <;> rfl
   simp only [loadVar,Sem.run_bind,hia,Result.andThen_ok,if_true,bI hi,loadCells]
   rw [hsz,←hl,jw P ad vs 0 #[] w (fun j v hv=>hall w.heap hw j v hv)]
   simp
  ·exact h.elim
 unfold lp at h
 split at h
 ·rename_i fs hd;exact agg _ hd rfl h
 ·rename_i l e hd;exact agg _ hd rfl h
 ·rename_i d hnS hnA
  split at h
  ·rename_i d hd
   obtain ⟨v,hv,hk⟩:=fT h
   refine ⟨v,_,hk,⟨hv,trivial⟩,fun w hw=>?_⟩
   have hia:(isAgg t).run P w=.ok false w:=by
    simp only [isAgg,Sem.run_bind,aE hd,Result.andThen_ok]
    cases d with
    | struct fs=>exact absurd hd (by simpa using hnS fs)
    | array l e=>exact absurd hd (by simpa using hnA l e)
    | _=>rfl
   have hc:w.cell? ad=some v:=hw.1
   simp [loadVar,hia,hc]
  ·exact h.elim
theorem km {P:Program}{ad:Addr}:∀ {vs:List Value}{i:Nat}{k:ae->Prop}{w:World},ou ad i vs k w.heap ->
  ∃ w',(storeCells ad vs i).run P w=.ok () w'∧k w'.heap∧bE w w'
 | [],_,_,w,h=>⟨w,rfl,h,bE.refl w⟩
 | v :: r,i,k,w,h=>by
  simp only [ou] at h
  split at h
  ·rename_i h1
   obtain ⟨⟨⟨v0,h2⟩,h3⟩,h⟩:=h
   obtain ⟨w',hr,hk,hs⟩:=km (P:=P) (w:=w.setCell (ad.add i) v) h
   refine ⟨w',?_,hk,(bE.heap (w:=w) (bM.set w.heap (ad.add i) v)).trans hs⟩
   have e2:w.cell? (ad.add i)=some v0:=h2
   have e3:w.frozen? (ad.add i)=false:=h3
   have e1:(store (ad.add i) v).run P w=.ok () (w.setCell (ad.add i) v):=by
    cases v <;> simp only [dC,Bool.false_eq_true] at h1 <;> simp only [store,Sem.run,e2,e3,Bool.false_eq_true,if_false]
   simp only [storeCells,Sem.run_bind,e1,Result.andThen_ok]
   exact hr
  ·exact h.elim
theorem og {P:Program}{t:TypeId}{ad:Addr}{v:Value}{k:ae->Prop}{w:World} (h:oE P t ad v k w.heap) :
  ∃ w',(storeVar t ad v).run P w=.ok () w'∧k w'.heap∧bE w w':=by
 unfold oE at h
 split at h
 ·rename_i hs
  have hs:=of_decide_eq_true hs
  obtain ⟨i,hi,hsz⟩:∃ i,P.info? t=some i∧i.size=v.cells.toList.length:=by
   cases hi:P.info? t with
   | none=>simp [hi] at hs
   | some i=>simp [hi] at hs;exact ⟨i,rfl,by simpa using hs⟩
  obtain ⟨w',hr,hk,hw⟩:=km (P:=P) h
  refine ⟨w',?_,hk,hw⟩
  simp only [storeVar,Sem.run_bind,bI hi,Result.andThen_ok]
  rw [if_neg (by simp [hsz])]
  exact hr
 ·exact h.elim
theorem vY (P:Program) (m:Sem Value) (w:World):(do pure (Next.value (← m)):Sem Next).run P w=(m.run P w).andThen fun v w'=>.ok (.value v) w':=by
 simp
theorem gY {P:Program}{m:Sem Next}{k:Value->Prop} (h:Bd P m (Fk k)):∃ v,k v∧∀ w,m.run P w=.ok (.value v) w:=by
 obtain ⟨nx,h1,h2⟩:=uI P m _ h
 cases nx <;> simp only [Fk] at h1
 exact ⟨_,h1,h2⟩
theorem fu {P:Program}{e:TypeId} (h:(P.info? e).isSome=true):∃ i,P.info? e=some i∧i.size=gZ P e:=by
 cases hi:P.info? e with
 | none=>simp [hi] at h
 | some i=>exact ⟨i,rfl,by simp [gZ,hi]⟩
theorem ef (P:Program) (κ:IntKind) (n:Int) (w:World):(asIntOf (.int κ n)).run P w=.ok (κ,n) w:=rfl
theorem mI {P:Program}{t e:TypeId}{base:Option Addr}{len cap:Nat}{κ:IntKind}{i:Int}{b:Addr} (hu:P.underlying t=some (.slice e)) (he:(P.info? e).isSome=true)
  (hi:0<=i∧i<len) (hb:base=some b) (w:World):(Instr.indexAt t (.slice base len cap) (.int κ i)).run P w=.ok (.pointer (some (b.add (i.toNat*gZ P e)))) w:=by
 obtain ⟨inf,h1,h2⟩:=fu he
 subst hb
 simp only [Instr.indexAt,Sem.run_bind,ef,Result.andThen_ok,aE hu,Sem.run_pure,if_pos hi,bI h1,h2]
theorem mr {P:Program}{t e:TypeId}{n:Nat}{κ:IntKind}{i:Int}{b:Addr} (hu:P.underlying t=some (.array n e)) (he:(P.info? e).isSome=true)
  (hi:0<=i∧i<(n:Int)) (w:World):(Instr.indexAt t (.pointer (some b)) (.int κ i)).run P w=.ok (.pointer (some (b.add (i.toNat*gZ P e)))) w:=by
 obtain ⟨inf,h1,h2⟩:=fu he
 simp only [Instr.indexAt,Instr.sureAddr,Sem.run_bind,ef,Result.andThen_ok,aE hu,Sem.run_pure,if_pos hi,bI h1,h2]
theorem bh (P:Program) (κ:IntKind) (i:Int) (y:Nat) (c:BoundsCode) (h:0<=i∧i<=y) (w:World):(Instr.sliceBound (.int κ i) y c).run P w=.ok i.toNat w:=by
 simp only [Instr.sliceBound,Sem.run_bind,ef,Result.andThen_ok,if_pos h,Sem.run_pure]
theorem gd (a:Option Addr):a.map (·.add 0)=a:=by cases a <;> rfl
theorem rb {P:Program}{t e:TypeId}{base:Option Addr}{len cap:Nat}{lo hi:Option Value}{k:Value->Prop} (hu:P.underlying t=some (.slice e)) (he:(P.info? e).isSome=true)
  (h:match lo,hi with
    | none,none=>k (.slice base len cap)
    | none,some (.int _ h)=>(0<=h∧h<=(cap:Int))∧k (.slice base h.toNat cap)
    | some (.int _ l),none=>(0<=l∧l<=(len:Int))∧k (.slice (gr base cap l (gZ P e)) (len-l.toNat) (cap-l.toNat))
    | some (.int _ l),some (.int _ h)=>((0<=h∧h<=(cap:Int))∧0<=l∧l<=h)∧k (.slice (gr base cap l (gZ P e)) (h.toNat-l.toNat) (cap-l.toNat))
    | _,_=>False):∃ v,k v∧∀ w,(Instr.slice t (.slice base len cap) lo hi none).run P w=.ok v w:=by
 obtain ⟨inf,h1,h2⟩:=fu he
 split at h
 ·refine ⟨_,h,fun w=>?_⟩
  simp only [Instr.slice,Instr.sliceBounds,Sem.run_bind,aE hu,Result.andThen_ok,Sem.run_pure,bI h1,Nat.zero_mul,gd,ite_self,Nat.sub_zero]
 ·refine ⟨_,h.2,fun w=>?_⟩
  simp only [Instr.slice,Instr.sliceBounds,Sem.run_bind,aE hu,Result.andThen_ok,Sem.run_pure,bI h1,Nat.zero_mul,gd,ite_self,Nat.sub_zero,bh _ _ _ _ _ h.1]
 ·refine ⟨_,h.2,fun w=>?_⟩
  simp only [Instr.slice,Instr.sliceBounds,Sem.run_bind,aE hu,Result.andThen_ok,Sem.run_pure,bI h1,bh _ _ _ _ _ h.1,gr,h2]
 ·rename_i l _ h'
  refine ⟨_,h.2,fun w=>?_⟩
  have hb:0<=l∧l<=((h'.toNat:Nat):Int):=⟨h.1.2.1,by have:=h.1.1.1;have:=h.1.2.2;omega⟩
  simp only [Instr.slice,Instr.sliceBounds,Sem.run_bind,aE hu,Result.andThen_ok,Sem.run_pure,bI h1,bh _ _ _ _ _ h.1.1,bh _ _ _ _ _ hb,gr,h2]
 ·exact h.elim
theorem ub {P:Program}{t:TypeId}{s:ByteArray}{lo hi:Option Value}{k:Value->Prop} (hu:P.underlying t=some .string)
  (h:match lo,hi with
   | none,none=>k (.string (s.extract 0 s.size))
   | none,some (.int _ h)=>(0<=h∧h<=(s.size:Int))∧k (.string (s.extract 0 h.toNat))
   | some (.int _ l),none=>(0<=l∧l<=(s.size:Int))∧k (.string (s.extract l.toNat s.size))
   | some (.int _ l),some (.int _ h)=>((0<=h∧h<=(s.size:Int))∧0<=l∧l<=h)∧k (.string (s.extract l.toNat h.toNat))
   | _,_=>False):∃ v,k v∧∀ w,(Instr.slice t (.string s) lo hi none).run P w=.ok v w:=by
 split at h
 ·refine ⟨_,h,fun w=>?_⟩
  simp only [Instr.slice,Instr.sliceBounds,Sem.run_bind,aE hu,Result.andThen_ok,Sem.run_pure,Option.isSome_none,Bool.false_eq_true,if_false]
 ·refine ⟨_,h.2,fun w=>?_⟩
  simp only [Instr.slice,Instr.sliceBounds,Sem.run_bind,aE hu,Result.andThen_ok,Sem.run_pure,bh _ _ _ _ _ h.1,Option.isSome_none,Bool.false_eq_true,if_false]
 ·refine ⟨_,h.2,fun w=>?_⟩
  simp only [Instr.slice,Instr.sliceBounds,Sem.run_bind,aE hu,Result.andThen_ok,Sem.run_pure,bh _ _ _ _ _ h.1,Option.isSome_none,Bool.false_eq_true,if_false]
 ·rename_i l _ h'
  refine ⟨_,h.2,fun w=>?_⟩
  have hb:0<=l∧l<=((h'.toNat:Nat):Int):=⟨h.1.2.1,by have:=h.1.1.1;have:=h.1.2.2;omega⟩
  simp only [Instr.slice,Instr.sliceBounds,Sem.run_bind,aE hu,Result.andThen_ok,Sem.run_pure,bh _ _ _ _ _ h.1.1,bh _ _ _ _ _ hb,Option.isSome_none,Bool.false_eq_true,if_false]
 ·exact h.elim
def kM:Value->Value->Bool
 | .nilIface,.nilIface | .agg _,.agg _=>false
 | _,_=>true
theorem gS (P:Program) (op:BinOp) (t:TypeId) (x y:Operand) (a b:Value) (h:kM a b=true) (w:World) :
  (eqGuard op t x y a b).run P w=.ok () w:=by
 unfold eqGuard
 cases op <;> simp <;> cases a <;> cases b <;> simp [kM] at h ⊢
theorem oy {P:Program}{t e:TypeId} (hu:P.underlying t=some (.pointer e)) (p:Option Addr) (w:World) (d:Nat):(Op.equalIn (d+1) t (.pointer p) (.pointer none)).run P w=.ok p.isNone w:=by
 cases p <;> simp only [Op.equalIn,Sem.run_bind,aE hu,Result.andThen_ok,Sem.run_pure,Option.isNone_none,Option.isNone_some]
theorem nv {P:Program}{t e:TypeId} (hu:P.underlying t=some (.pointer e)) (p:Option Addr) (w:World):(Op.equal t (.pointer p) (.pointer none)).run P w=.ok p.isNone w:=oy hu p w 9999
theorem mo {P:Program}{t e:TypeId} (hu:P.underlying t=some (.slice e)) (p:Option Addr) (l c l' c':Nat) (w:World) (d:Nat):(Op.equalIn (d+1) t (.slice p l c) (.slice none l' c')).run P w=.ok p.isNone w:=by
 cases p <;> simp only [Op.equalIn,Sem.run_bind,aE hu,Result.andThen_ok,Sem.run_pure,Option.isNone_none,Option.isNone_some]
theorem mi {P:Program}{t e:TypeId} (hu:P.underlying t=some (.slice e)) (p:Option Addr) (l c l' c':Nat) (w:World):(Op.equal t (.slice p l c) (.slice none l' c')).run P w=.ok p.isNone w:=mo hu p l c l' c' w 9999
theorem mB {P:Program}{t a b:TypeId} (hu:P.underlying t=some (.map a b)) (p:Option Nat) (w:World) (d:Nat):(Op.equalIn (d+1) t (.map p) (.map none)).run P w=.ok p.isNone w:=by
 cases p <;> simp only [Op.equalIn,Sem.run_bind,aE hu,Result.andThen_ok,Sem.run_pure,Option.isNone_none,Option.isNone_some]
theorem kY {P:Program}{t a b:TypeId} (hu:P.underlying t=some (.map a b)) (p:Option Nat) (w:World):(Op.equal t (.map p) (.map none)).run P w=.ok p.isNone w:=mB hu p w 9999
theorem nS {P:Program}{dst:Option Tmp}{type t u:TypeId}{pos:String}{after:Array Edge}{guard:Option (Nat × Bool)}{x y:Operand}{ρ:Operand->Value}{b:Bool}{va vb:Value} (hx:ρ x=va) (hy:ρ y=vb)
  (hg:kM va vb=true)
  (hn:Go.binOp .eql t va vb=(do pure (.bool (← Op.equal t va vb)))) (w:World) (h:(Op.equal t va vb).run P w=.ok b w) :
  (execOp ρ ⟨dst,.binOp .eql t x y u,type,pos,after,guard⟩).run P w=.ok (.value (.bool b)) w:=by
 show Sem.run P (do pure (Next.value (← (do eqGuard .eql t x y (ρ x) (ρ y);Go.binOp .eql t (ρ x) (ρ y)))):Sem Next) w=_
 rw [hx,hy,hn]
 simp only [Sem.run_bind,gS _ _ _ _ _ _ _ hg,Result.andThen_ok,h,Sem.run_pure]
theorem oq {P:Program}{dst:Option Tmp}{type t u:TypeId}{pos:String}{after:Array Edge}{guard:Option (Nat × Bool)}{x y:Operand}{ρ:Operand->Value}{b:Bool}{va vb:Value} (hx:ρ x=va) (hy:ρ y=vb)
  (hg:kM va vb=true)
  (hn:Go.binOp .neq t va vb=(do pure (.bool (!(← Op.equal t va vb))))) (w:World) (h:(Op.equal t va vb).run P w=.ok b w) :
  (execOp ρ ⟨dst,.binOp .neq t x y u,type,pos,after,guard⟩).run P w=.ok (.value (.bool (!b))) w:=by
 show Sem.run P (do pure (Next.value (← (do eqGuard .neq t x y (ρ x) (ρ y);Go.binOp .neq t (ρ x) (ρ y)))):Sem Next) w=_
 rw [hx,hy,hn]
 simp only [Sem.run_bind,gS _ _ _ _ _ _ _ hg,Result.andThen_ok,h,Sem.run_pure]
theorem jj {P:Program}{o:Oper}{ρ:Operand->Value}{k:Value->Prop} (h:eX P o ρ k):∃ v,k v∧∀ w,(execOp ρ o).run P w=.ok (.value v) w:=by
 obtain ⟨dst,op,type,pos,after,guard⟩:=o
 cases op
 case pick c x y =>
  simp only [eX] at h
  split at h
  ·rename_i b hb
   cases b
   ·exact ⟨_,h,fun w=>by simp [execOp,hb,asBool]⟩
   ·exact ⟨_,h,fun w=>by simp [execOp,hb,asBool]⟩
  ·exact h.elim
 case nilCheck x =>
  simp only [eX] at h
  split at h
  ·rename_i p hp
   obtain ⟨ad,rfl,h⟩:=h
   exact ⟨_,h,fun w=>by simp [execOp,hp]⟩
  ·exact gY h
 case indexAddr t x i =>
  simp only [eX] at h
  split at h
  ·rename_i e base len cap κ i hu hx hi
   split at h
   ·rename_i he
    obtain ⟨hb,b,hbase,h⟩:=h
    exact ⟨_,h,fun w=>by simp only [execOp,vY,hx,hi,mI hu he hb hbase,Result.andThen_ok]⟩
   ·exact h.elim
  ·rename_i n e b κ i hu hx hi
   split at h
   ·rename_i he
    obtain ⟨hb,h⟩:=h
    exact ⟨_,h,fun w=>by simp only [execOp,vY,hx,hi,mr hu he hb,Result.andThen_ok]⟩
   ·exact h.elim
  ·exact h.elim
 case index t x i =>
  simp only [eX] at h
  split at h
  ·rename_i s κ i hu hx hi
   obtain ⟨b,⟨h0,hb⟩,h⟩:=h
   refine ⟨_,h,fun w=>?_⟩
   simp only [execOp,hx,hi,Instr.index,Sem.run_bind,ef,Result.andThen_ok,aE hu,if_pos h0,hb,Sem.run_pure]
  ·rename_i len e cs κ i hu hx hi
   split at h
   ·rename_i h1
    obtain ⟨hb,h⟩:=h
    obtain ⟨v,hv,h⟩:=gJ h
    refine ⟨_,h,fun w=>?_⟩
    obtain ⟨d,hd,hag,inf,hi1,hi2⟩:∃ d,P.underlying e=some d∧(isAgg e).run P w=.ok false w∧∃ inf,P.info? e=some inf∧inf.size=1:=by
     unfold Fy at h1
     split at h1
     ·cases h1
     ·cases h1
     ·cases h1
     ·rename_i d hnS hnA hd
      have h1:=of_decide_eq_true h1
      refine ⟨d,hd,?_,?_⟩
      ·simp only [isAgg,Sem.run_bind,aE hd,Result.andThen_ok]
       cases d with
       | struct fs=>exact absurd hd (by simpa using hnS fs)
       | array l e=>exact absurd hd (by simpa using hnA l e)
       | _=>rfl
      ·cases hi:P.info? e with
       | none=>simp [hi] at h1
       | some i=>simp [hi] at h1;exact ⟨i,rfl,h1⟩
    simp only [execOp,hx,hi,Instr.index,Sem.run_bind,ef,Result.andThen_ok,aE hu,if_pos hb,bI hi1,hi2,Nat.mul_one,part,hag,Bool.false_eq_true,if_false,hv,Sem.run_pure]
   ·exact gY h
  ·exact h.elim
 case slice t x lo hi mx =>
  cases mx with
  | some m =>
   cases hi with
   | none=>simp only [eX] at h;exact gY h
   | some hi =>
    simp only [eX] at h
    split at h
    ·rename_i e base len cap κ h' κ' m' hu hx hhi hm
     split at h
     ·rename_i he
      obtain ⟨inf,h1,h2⟩:=fu he
      split at h
      ·rename_i hlo
       have hb:0<=h'∧h'<=((m'.toNat:Nat):Int):=⟨h.1.2.1,by have:=h.1.1.1;have:=h.1.2.2;omega⟩
       refine ⟨_,h.2,fun w=>?_⟩
       simp only [execOp,hx,hhi,hm,hlo,Instr.sliceAt,Instr.slice,Instr.sliceBounds,Sem.run_bind,aE hu,Result.andThen_ok,Option.map_some,Sem.run_pure,bI h1,bh _ _ _ _ _ h.1.1,bh _ _ _ _ _ hb,Nat.zero_mul,gd,ite_self,Nat.sub_zero]
      ·rename_i l hlo
       have hb:0<=h'∧h'<=((m'.toNat:Nat):Int):=⟨h.1.1.2.1,by have:=h.1.1.1.1;have:=h.1.1.2.2;omega⟩
       have hb2:0<=l∧l<=((h'.toNat:Nat):Int):=⟨h.1.2.1,by have:=h.1.2.2;have:=h.1.1.2.1;omega⟩
       refine ⟨_,h.2,fun w=>?_⟩
       simp only [execOp,hx,hhi,hm,hlo,Instr.sliceAt,Instr.slice,Instr.sliceBounds,Sem.run_bind,aE hu,Result.andThen_ok,Option.map_some,Sem.run_pure,bI h1,bh _ _ _ _ _ h.1.1.1,bh _ _ _ _ _ hb,bh _ _ _ _ _ hb2,gr,h2]
      ·exact h.elim
     ·exact h.elim
    ·exact h.elim
  | none =>
   simp only [eX] at h
   split at h
   ·rename_i e base len cap hu hx
    split at h
    ·rename_i he
     obtain ⟨v,hk,hr⟩:=rb hu he h
     refine ⟨v,hk,fun w=>?_⟩
     simp only [execOp,hx,Instr.sliceAt,Sem.run_bind,aE hu,Result.andThen_ok,Option.map_none,hr,Sem.run_pure]
    ·exact h.elim
   ·rename_i s hu hx
    obtain ⟨v,hk,hr⟩:=ub hu h
    refine ⟨v,hk,fun w=>?_⟩
    simp only [execOp,hx,Instr.sliceAt,Sem.run_bind,aE hu,Result.andThen_ok,Option.map_none,hr,Sem.run_pure]
   ·exact h.elim
 case binOp op t x y u =>
  simp only [eX] at h
  split at h
  ·rename_i e p hu hx hy;exact ⟨_,h,fun w=>nS hx hy rfl rfl w (nv hu p w)⟩
  ·rename_i e p hu hx hy;exact ⟨_,h,fun w=>oq hx hy rfl rfl w (nv hu p w)⟩
  ·rename_i hu hx hy;exact ⟨_,h,fun w=>nS hx hy rfl rfl w (mi hu _ _ _ _ _ w)⟩
  ·rename_i hu hx hy;exact ⟨_,h,fun w=>oq hx hy rfl rfl w (mi hu _ _ _ _ _ w)⟩
  ·rename_i hu hx hy;exact ⟨_,h,fun w=>nS hx hy rfl rfl w (kY hu _ w)⟩
  ·rename_i hu hx hy;exact ⟨_,h,fun w=>oq hx hy rfl rfl w (kY hu _ w)⟩
  ·rename_i κ x' κ' y' hx hy
   split at h
   ·rename_i hk
    have hk:=of_decide_eq_true hk
    subst hk
    by_cases hy0:y'=0
    ·simp [hy0] at h
    ·simp only [hy0,decide_false,cond_false] at h
     exact ⟨_,h,fun w=>by simp [execOp,hx,hy,eqGuard,Go.binOp,Op.intDiv,hy0]⟩
   ·exact h.elim
  ·rename_i κ x' κ' y' hx hy
   split at h
   ·rename_i hk
    have hk:=of_decide_eq_true hk
    subst hk
    by_cases hy0:y'=0
    ·simp [hy0] at h
    ·simp only [hy0,decide_false,cond_false] at h
     exact ⟨_,h,fun w=>by simp [execOp,hx,hy,eqGuard,Go.binOp,Op.intDiv,hy0]⟩
   ·exact h.elim
  ·rename_i κ x' κ' y' hx hy
   by_cases hy0:y'<0
   ·simp [hy0] at h
   ·simp only [hy0,decide_false,cond_false] at h
    exact ⟨_,h,fun w=>by simp [execOp,hx,hy,eqGuard,Go.binOp,Op.shift,hy0,eA]⟩
  ·rename_i κ x' κ' y' hx hy
   by_cases hy0:y'<0
   ·simp [hy0] at h
   ·simp only [hy0,decide_false,cond_false] at h
    exact ⟨_,h,fun w=>by simp [execOp,hx,hy,eqGuard,Go.binOp,Op.shift,hy0,fe]⟩
  ·rename_i x' y' hx hy
   by_cases hy0:((x'.size+y'.size:Nat):Int) > IntKind.i64.max
   ·simp only [hy0,decide_true,cond_true] at h
   ·simp only [hy0,decide_false,cond_false] at h
    exact ⟨_,h,fun w=>by simp only [execOp,hx,hy,Sem.run_bind,eqGuard,Go.binOp,Op.stringOp];simp only [hy0];simp⟩
  ·exact gY h
 all_goals exact gY h
end Kw
namespace Kw
open Go
theorem dX {P:Program}{o:Oper}{a:Act}{next:Act->World->Prop}{Q:Exit->Act->World->Prop}{r:Result Next}{v:Value}{w:World} (hr:r=.ok (.value v) w) (h:next (a.put o.dst v) w):o.upon P a next Q r:=by
 subst hr;exact h
theorem mN {P:Program}{o:Oper}{a:Act}{next:Act->World->Prop}{Q:Exit->Act->World->Prop}{r:Result Next}{w:World} (hr:r=.ok .skip w) (h:next (a.put o.dst undef) w):o.upon P a next Q r:=by
 subst hr;exact h
theorem nD {P:Program}{m:Sem Value}{w w':World}{v:Value} (h:m.run P w=.ok v w'):(do pure (Next.value (← m)):Sem Next).run P w=.ok (.value v) w':=by
 simp only [Sem.run_bind,h,Result.andThen_ok,Sem.run_pure]
theorem AW {P:Program}{m:Sem Unit}{w w':World} (h:m.run P w=.ok () w'):(do m;pure Next.skip:Sem Next).run P w=.ok .skip w':=by
 simp only [Sem.run_bind,h,Result.andThen_ok,Sem.run_pure]
theorem bH {P:Program}{o:Oper}{a:Act}{next:Act->World->Prop}{Q:Exit->Act->World->Prop}{m:Sem Value}{k:Value->ae->Prop}{w:World}
  (he:execOp a.eval o=(do pure (Next.value (← m)))) (h:aK P m k w.heap) (hk:∀ v w',k v w'.heap->bE w w'->next (a.put o.dst v) w'):o.wp P a w next Q:=by
 obtain ⟨v,w',hr,hq,hs⟩:=jI P m k w h
 unfold Oper.wp
 rw [he]
 exact dX (nD hr) (hk v w' hq hs)
theorem lm {P:Program}{o:Oper}{a:Act}{next:Act->World->Prop}{Q:Exit->Act->World->Prop}{m:Sem Unit}{k:ae->Prop}{w:World}
  (he:execOp a.eval o=(do m;pure Next.skip)) (h:aK P m (fun _=>k) w.heap) (hk:∀ w',k w'.heap->bE w w'->next (a.put o.dst undef) w'):o.wp P a w next Q:=by
 obtain ⟨v,w',hr,hq,hs⟩:=jI P m _ w h
 unfold Oper.wp
 rw [he]
 exact mN (AW hr) (hk w' hq hs)
theorem gg {P:Program} (hP:GoodPg P){g:FuncId}{fn:Func} (hf:P.funcs[g]?=some fn) (hb:fn.body.isSome=true) (args:Array Value) (w:World) :
  (callFunc g args).run P w=.ok (.enter g args) w:=by
 have hn : (fn.name == "runtime.NumGoroutine") = false := by
  have:=Array.all_eq_true_iff_forall_mem.1 hP.names fn (Array.mem_of_getElem? hf)
  simpa using this
 have hb':fn.body.isNone=false:=by cases h:fn.body <;> simp [h] at hb ⊢
 simp only [callFunc,Sem.run_bind,run_program,Result.andThen_ok,hf,hn,hb',Bool.false_eq_true,if_false,Sem.run_pure]
theorem lz {P:Program} (hP:GoodPg P){o:Oper}{a:Act}{k:Value->ae->Prop}{w:World}{next:Act->World->Prop}{Q:Exit->Act->World->Prop}
  (h:o9 P o a.eval k w.heap) (hk:∀ v w',k v w'.heap->bE w w'->next (a.put o.dst v) w'):o.wp P a w next Q:=by
 unfold o9 at h
 split at h
 ·obtain ⟨v,hv,hr⟩:=jj h
  unfold Oper.wp
  exact dX (hr w) (hk v w hv (bE.refl w))
 ·rename_i hpure;clear hpure
  obtain ⟨dst,op,type,pos,after,guard⟩:=o
  have hkt:∀ v w',sg P type v (fun x=>k x w'.heap)->bE w w'->next (a.put dst v) w':=fun v w' h hs=>hk v w' (pW h) hs
  cases op <;> simp only [] at h
  case load t x =>
   split at h
   ·rename_i ad hx
    obtain ⟨v,cs,hv,hc,hr⟩:=gL h
    unfold Oper.wp
    refine dX (v:=v) (w:=w) ?_ (hk v w hv (bE.refl w))
    refine nD ?_
    simp only [hx,Instr.loadAt,Instr.sureAddr,Sem.run_bind,Sem.run_pure,Result.andThen_ok]
    exact hr w hc
   ·exact h.elim
  case store t x v =>
   split at h
   ·rename_i ad hx
    obtain ⟨w',hr,hq,hs⟩:=og h
    unfold Oper.wp
    refine mN (w:=w') ?_ (hk undef w' hq hs)
    refine AW ?_
    simp only [hx,Instr.storeAt,Instr.sureAddr,Sem.run_bind,Sem.run_pure,Result.andThen_ok]
    exact hr
   ·exact h.elim
  case alloc e =>
   split at h
   ·rename_i z hz
    obtain ⟨i,hi,hiz⟩:∃ i,P.info? e=some i∧i.zero=some z:=by
     cases hi:P.info? e with
     | none=>simp [hi] at hz
     | some i=>simp [hi] at hz;exact ⟨i,rfl,hz⟩
    unfold Oper.wp
    refine dX (v:=.pointer (some ⟨w.heap.size,0,none⟩)) (w:={ w with heap:=w.heap.push (.cells z.cells e) }) ?_ (hk _ _ h (bE.heap (bM.push _ _)))
    refine nD ?_
    simp only [Instr.alloc,zeroValue,Sem.run_bind,iF hi,Result.andThen_ok,hiz,Sem.run_pure,newVar,newRow,run_newObj]
   ·exact h.elim
  case box e x =>
   unfold Oper.wp
   refine dX (v:=.pointer (some ⟨w.heap.size,0,none⟩)) (w:={ w with heap:=w.heap.push (.cells (a.eval x).cells e) }) ?_ (hk _ _ h (bE.heap (bM.push _ _)))
   refine nD ?_
   simp only [Instr.box,Sem.run_bind,Result.andThen_ok,Sem.run_pure,newVar,newRow,run_newObj]
  case buildSlice t len parts=>exact bH rfl h hk
  case makeMap t r =>
   cases r with
   | some r=>exact h.elim
   | none =>
    unfold Oper.wp
    refine dX (v:=.map (some w.heap.size)) (w:={ w with heap:=w.heap.push (.map #[] 0) }) ?_ (hk _ _ h (bE.heap (bM.push _ _)))
    rfl
  case makeSlice t l c=>exact bH rfl h hkt
  case lookup t m key ok=>exact bH rfl h hkt
  case mapUpdate t m key x=>exact lm rfl h (hk undef)
  case insert t m key x=>exact lm rfl h (hk undef)
  case mapEntry t m key=>exact bH rfl h hk
  case entryStore t m s x=>exact lm rfl h (hk undef)
  case range t x=>exact bH rfl h hk
  case next it s =>
   refine bH rfl h fun v w' hv hs=>?_
   rcases hv with ⟨rfl,hv⟩ | ⟨x,y,rfl,hv⟩
   ·exact hk _ w' hv hs
   ·exact hk _ w' hv hs
  case convert src dst x=>exact bH rfl h hkt
  case binOp op t x y u=>exact bH rfl h hkt
  case call c =>
   obtain ⟨callee,args,argTypes⟩:=c
   cases callee <;> simp only [] at h
   case value f =>
    split at h
    ·rename_i g first cap hf
     obtain ⟨⟨fn,hfn,hb⟩,hc⟩:=h
     have hrun:(execOp a.eval ⟨dst,.call ⟨.value f,args,argTypes⟩,type,pos,after,guard⟩).run P w=.ok (.enter g ((first++args.map a.eval)++cap)) w:=by
      show Sem.run P (do let d ← resolve a.eval ⟨.value f,args,argTypes⟩ type;invoke d.target d.args) w=_
      simp only [resolve,hf,Deferred.ofValue,Sem.run_bind,Sem.run_pure,Result.andThen_ok,invoke]
      exact gg hP hfn hb _ w
     unfold Oper.wp
     rw [hrun,Oper.upon_enter]
     refine (hc w rfl).mono ?_
     rintro e w' ⟨v,rfl,hv,hs⟩
     exact hkt v w' hv hs
    ·exact h.elim
   case builtin b =>
    cases b <;> simp only [] at h
    case append=>exact bH rfl h hkt
    case copy=>exact bH rfl h hkt
    case len=>exact bH rfl h hkt
    case unsafeSliceData=>exact bH rfl h hkt
    case unsafeString=>exact bH rfl h hkt
    case clear=>exact bH rfl h hk
    case delete=>exact bH rfl h hk
    all_goals exact h.elim
  all_goals exact h.elim
abbrev FR (r:Option Nat):Fence:={ fn:=fun _=>True,depth:=none,alive:=false,round:=r }
theorem lO {r:Option Nat}{n:Nat}{P:Program}{f:FuncId}{args:Array Value}{w:World}{R:Ending->World->Prop} (h:Calls P f args w R):CallsIn (FR r) n P f args w R:=by
 cases r with
 | none=>exact callsIn_wide.2 h
 | some l=>exact callsIn_wide (n:=n).2 h
theorem uE {r:Option Nat}{n:Nat}{P:Program}{row:String}{args:Array Value}{w:World}{R:Value->World->Prop} (h:Rows P row args w R):RowsIn (FR r) n P row args w R:=by
 intro c cs _
 obtain ⟨v,w',hr,hs⟩:=h c cs
 refine ⟨v,w',hr,?_⟩
 cases r with
 | none=>exact stepsIn_wide.2 hs
 | some l=>exact stepsIn_wide.2 hs
theorem qN {r:Option Nat}{n:Nat}{P:Program}{l:Nat}{f:FuncId}{tmps:Array Value}{assign body:Code}{w:World}{R:Ending->World->Prop} (h:RoundIn Fence.wide 0 P l f tmps assign body w R):RoundIn (FR r) n P l f tmps assign body w R:=by
 refine ⟨trivial,fun c cs _=>?_⟩
 obtain ⟨e,w',hR,hs⟩:=h.2 c cs (room_wide _)
 refine ⟨e,w',hR,?_⟩
 cases r with
 | none=>exact hs
 | some l=>exact hs
theorem xw {P:Program}{r:Option Nat}{n:Nat}{o:Oper}{a:Act}{next:Act->World->Prop}{Q:Exit->Act->World->Prop}:∀ {res:Result Next},o.upon P a next Q res->o.uponIn (FR r) n P a next Q res:=by
 intro res h
 unfold Oper.upon at h
 unfold Oper.uponIn
 split at h
 ·exact h
 ·exact h
 ·exact h
 ·exact ⟨fun h=>(by cases h),lO h⟩
 ·exact ⟨fun h=>(by cases h),uE h⟩
 ·exact h
 ·exact h.elim
theorem Gq {P:Program}{r:Option Nat}{n:Nat}{o:Oper}{a:Act}{w:World}{next:Act->World->Prop}{Q:Exit->Act->World->Prop} (hd:∀ c,o.op≠.defer c) (h:o.wp P a w next Q):o.wpIn (FR r) n P a w next Q:=by
 refine ⟨fun _ _=>trivial,?_⟩
 rw [Oper.semAt_eq _ _ _ hd]
 exact xw h
abbrev Act.re (a:Act) (dr:List Deferred):Act:=⟨a.tmps,dr⟩
theorem eI (a:Act) (dr:List Deferred):(Act.re a dr).eval=a.eval:=by
 funext x;cases x <;> rfl
theorem iQ (a:Act) (dr:List Deferred) (d:Option Tmp) (v:Value):(Act.re a dr).put d v=Act.re (a.put d v) dr:=by
 cases d <;> rfl
inductive MixD (n:Nat) (H:ae):List Deferred->List Deferred->List Nat->Prop
 | nil:MixD n H [] [] []
 | mark {D:Nat}{dr da:List Deferred}{l:List Nat}:H[D]?=some (.deferred (some []))->n<=D->D∉l->MixD n H dr da l->MixD n H (⟨.collected D,#[]⟩ :: dr) da (D :: l)
 | call {d:Deferred}{dr da:List Deferred}{l:List Nat}:MixD n H dr da l->MixD n H (d :: dr) (d :: da) l
theorem MixD.keep {n:Nat}{H H':ae}{dr da:List Deferred}{l:List Nat} (h:MixD n H dr da l) (hk:bM H H'):MixD n H' dr da l:=by
 induction h with
 | nil=>exact .nil
 | mark h1 h2 h3 _ ih=>exact .mark (hk.2 _ _ h1) h2 h3 ih
 | call _ ih=>exact .call ih
theorem MixD.lt {n:Nat}{H:ae}{dr da:List Deferred}{l:List Nat} (h:MixD n H dr da l):∀ D∈l,n<=D∧H[D]?=some (.deferred (some [])):=by
 induction h with
 | nil=>simp
 | mark h1 h2 h3 _ ih =>
  intro D hD
  rcases List.mem_cons.1 hD with rfl | hD
  ·exact ⟨h2,h1⟩
  ·exact ih D hD
 | call _ ih=>exact ih
def bm (ws:List Nat) (nd:Bool) (a a':Act):Prop:=a'.tmps.size=a.tmps.size∧(nd=true->a'.defers=a.defers)∧∀ i,i∉ws->a'.tmps[i]?=a.tmps[i]?
theorem bm.refl (ws:List Nat) (nd:Bool) (a:Act):bm ws nd a a:=⟨rfl,fun _=>rfl,fun _ _=>rfl⟩
theorem bm.trans {ws:List Nat}{nd:Bool}{a a' a'':Act} (h:bm ws nd a a') (h':bm ws nd a' a''):bm ws nd a a'' :=
 ⟨h'.1.trans h.1,fun hn=>(h'.2.1 hn).trans (h.2.1 hn),fun i hi=>(h'.2.2 i hi).trans (h.2.2 i hi)⟩
theorem bm.mono {ws ws':List Nat}{nd nd':Bool}{a a':Act} (h:bm ws nd a a') (hs:∀ i∈ws,i∈ws') (hn:nd'=true->nd=true):bm ws' nd' a a' :=
 ⟨h.1,fun h1=>h.2.1 (hn h1),fun i hi=>h.2.2 i fun hm=>hi (hs i hm)⟩
theorem bm.put {ws:List Nat}{nd:Bool}{a:Act}{dst:Option Tmp}{v:Value} (h:∀ d,dst=some d->d∈ws):bm ws nd a (a.put dst v):=by
 cases dst with
 | none=>exact bm.refl ws nd a
 | some d =>
  refine ⟨by simp [Act.put],fun _=>rfl,fun i hi=>?_⟩
  have:d≠i:=fun e=>hi (e ▸ h d rfl)
  simp [Act.put,Array.getElem?_setIfInBounds_ne this]
theorem fK {a:Act}{d:Nat}{v:Value} (h:a.tmps[d]?=some v):a.put (some d) v=a:=by
 obtain ⟨tmps,defers⟩:=a
 simp only [Act.put] at h ⊢
 congr 1
 obtain ⟨hd,hv⟩:=Array.getElem?_eq_some_iff.1 h
 apply Array.ext (by simp)
 intro i h1 h2
 rw [Array.getElem_setIfInBounds (by simpa using h2)]
 split
 ·rename_i e;subst e;exact hv.symm
 ·rfl
theorem gi {ops:Array Oper}{o:Oper}{a:Act}{yes no:Act->Prop} (h:iX ops o a yes no) :
  (Region.wanted o (yielded ops a.tmps)=true∧yes a)∨(Region.wanted o (yielded ops a.tmps)=false∧no a):=by
 unfold iX at h
 unfold Region.wanted
 split at h
 ·rename_i hg;rw [hg];exact .inl ⟨rfl,h⟩
 ·rename_i j want hg
  rw [hg]
  dsimp only
  split at h
  ·rename_i hd
   refine .inr ⟨?_,h⟩
   simp [yielded,hd]
  ·rename_i d hd
   have hy:yielded ops a.tmps j=match a.tmps[d]? with | some (.bool b)=>some b | _=>none:=by
    unfold yielded;rw [hd];rfl
   split at h
   ·rename_i b hb
    rw [hy,hb]
    cases b
    ·rw [cond_false] at h
     cases want
     ·exact .inl ⟨rfl,by simpa only [fK hb] using h⟩
     ·exact .inr ⟨rfl,by simpa only [fK hb] using h⟩
    ·rw [cond_true] at h
     cases want
     ·exact .inr ⟨rfl,by simpa only [fK hb] using h⟩
     ·exact .inl ⟨rfl,by simpa only [fK hb] using h⟩
   ·rename_i hb;rw [hy,hb];exact .inr ⟨rfl,h⟩
   ·rename_i hb;rw [hy,hb];exact .inr ⟨rfl,h⟩
   ·exact h.elim
theorem eZ (a:Act) (d:Option Tmp) (v:Value):(a.put d v).defers=a.defers:=by cases d <;> rfl
theorem mH {P:Program}{o:Oper}{ρ:Operand->Value}{k:Value->ae->Prop}{H:ae} (h:o9 P o ρ k H):∀ c,o.op≠.defer c:=by
 intro c hc
 obtain ⟨dst,op,type,pos,after,guard⟩:=o
 simp only at hc
 subst hc
 exact h
theorem mK {P:Program}{t:Option TypeId}{k:Value->Prop} (h:CL P t k):∃ v,k v:=by
 cases t with
 | none=>exact h
 | some t=>exact jc h
theorem oK {P:Program} (hP:GoodPg P){r:Option Nat}{n:Nat}{ops:Array Oper}{o:Oper}{a:Act}{dr:List Deferred}{l:List Nat}{m:Nat}{k:Act->ae->Prop}{w:World}{next:Act->World->Prop}{Q:Exit->Act->World->Prop}{ws:List Nat}
  (hd:∀ d,o.dst=some d->d∈ws) (hr:r=none∨dz o=false) (hm:MixD m w.heap dr a.defers l) (h:rB P ops o a k w.heap)
  (hk:∀ a' dr' w',k a' w'.heap->bE w w'->bm ws (!dz o) a a'->MixD m w'.heap dr' a'.defers l->next (Act.re a' dr') w'):o.wpIn (FR r) n P (Act.re a dr) w next Q:=by
 have plain:o9 P o a.eval (fun v H'=>k (a.put o.dst v) H') w.heap->o.wpIn (FR r) n P (Act.re a dr) w next Q:=by
  intro h
  refine Gq (mH h) (lz hP (a:=Act.re a dr) (by rw [eI];exact h) fun v w' hv hs=>?_)
  rw [iQ]
  exact hk _ dr w' hv hs (bm.put hd) (by rw [eZ];exact hm.keep hs.2.2.2.2)
 unfold rB at h
 split at h
 ·rename_i c hop
  split at h
  ·rename_i f hf
   split at h
   ·rename_i g first cap hfv
    have hrn:r=none:=hr.resolve_right (by simp [dz,hop])
    subst hrn
    refine ⟨fun _ _=>trivial,?_⟩
    have hrun:(o.semAt none (Act.re a dr).eval).run P w=.ok (.defer ⟨.fn (.func g) cap,first++c.args.map a.eval⟩) w:=by
     rw [Oper.semAt_none,eI]
     obtain ⟨dst,op,type,pos,after,guard⟩:=o
     simp only at hop
     subst hop
     obtain ⟨callee,args,argTypes⟩:=c
     simp only at hf
     subst hf
     simp only [execOp,resolve,hfv,Deferred.ofValue,Sem.run_bind,Sem.run_pure,Result.andThen_ok]
    show o.uponIn (FR none) n P (Act.re a dr) next Q ((o.semAt none (Act.re a dr).eval).run P w)
    rw [hrun,Oper.uponIn_defer]
    have e:({ Act.re a dr with defers:=⟨.fn (.func g) cap,first++c.args.map a.eval⟩ :: dr }:Act).put o.dst undef=Act.re (({ a with defers:=⟨.fn (.func g) cap,first++c.args.map a.eval⟩ :: a.defers }:Act).put o.dst undef) (⟨.fn (.func g) cap,first++c.args.map a.eval⟩ :: dr):=by
     cases o.dst <;> rfl
    show next (({ Act.re a dr with defers:=⟨.fn (.func g) cap,first++c.args.map a.eval⟩ :: dr }:Act).put o.dst undef) w
    rw [e]
    refine hk _ _ w h (bE.refl w) ?_ (by rw [eZ];exact hm.call)
    have hk1:bm ws true ({ a with defers:=⟨.fn (.func g) cap,first++c.args.map a.eval⟩ :: a.defers }:Act) (({ a with defers:=⟨.fn (.func g) cap,first++c.args.map a.eval⟩ :: a.defers }:Act).put o.dst undef):=bm.put hd
    exact ⟨hk1.1,fun hn=>by simp [dz,hop] at hn,hk1.2.2⟩
   ·exact h.elim
  ·exact h.elim
 ·rename_i it hop
  obtain ⟨v,w',hr',hq,hs⟩:=jI P _ _ w h
  obtain ⟨x,hq1⟩:=mK hq
  obtain ⟨y,he,hq2⟩:=mK hq1
  subst he
  refine ⟨fun _ _=>trivial,?_⟩
  have hrun:(o.semAt r (Act.re a dr).eval).run P w=.ok (.value (.tuple #[x,y])) w':=by
   rw [Oper.semAt_eq _ _ _ (by rw [hop];simp),eI]
   obtain ⟨dst,op,type,pos,after,guard⟩:=o
   simp only at hop
   subst hop
   exact nD hr'
  show o.uponIn (FR r) n P (Act.re a dr) next Q ((o.semAt r (Act.re a dr).eval).run P w)
  rw [hrun,Oper.uponIn_value,iQ]
  exact hk _ dr w' hq2 hs (bm.put hd) (by rw [eZ];exact hm.keep hs.2.2.2.2)
 ·rename_i c hop
  split at h
  ·rename_i f hf
   split at h
   ·rename_i l' first cap hfv
    obtain ⟨fn,tmps,assign,body,hy,hR⟩:=h w rfl
    refine ⟨fun _ _=>trivial,?_⟩
    have hrun:(o.semAt r (Act.re a dr).eval).run P w=.ok (.round l' fn tmps assign body) w:=by
     rw [Oper.semAt_eq _ _ _ (by rw [hop];simp),eI]
     obtain ⟨dst,op,type,pos,after,guard⟩:=o
     simp only at hop
     subst hop
     obtain ⟨callee,args,argTypes⟩:=c
     simp only at hf
     subst hf
     simp only [execOp,resolve,hfv,Deferred.ofValue,Sem.run_bind,Sem.run_pure,Result.andThen_ok,invoke]
     exact hy
    show o.uponIn (FR r) n P (Act.re a dr) next Q ((o.semAt r (Act.re a dr).eval).run P w)
    rw [hrun,Oper.uponIn_round]
    refine ⟨fun h=>(by cases h),(qN hR).mono ?_⟩
    rintro e w' ⟨v,rfl,hv,hs⟩
    show next ((Act.re a dr).put o.dst v) w'
    rw [iQ]
    exact hk _ dr w' (pW hv) hs (bm.put hd) (by rw [eZ];exact hm.keep hs.2.2.2.2)
   ·exact plain h
  ·exact plain h
 ·exact plain h
theorem gC {P:Program} (hP:GoodPg P){r:Option Nat}{n:Nat}{ops:Array Oper}{Q:Act->ae->Prop}{Q':Exit->Act->World->Prop}{ws:List Nat}{l:List Nat}{m:Nat}:∀ (os:List Oper) (a:Act) (dr:List Deferred) (w:World),
  (∀ o∈os,∀ d,o.dst=some d->d∈ws)->(r=none∨os.all (fun o=>!dz o)=true)->MixD m w.heap dr a.defers l->sI P ops Q os a w.heap ->
  (∀ a' dr' w',Q a' w'.heap->bE w w'->bm ws (os.all fun o=>!dz o) a a'->MixD m w'.heap dr' a'.defers l->Q' .normal (Act.re a' dr') w')->wpListIn (FR r) n P ops Q' os (Act.re a dr) w
 | [],a,dr,w,_,_,hm,h,hk=>hk a dr w h (bE.refl w) (bm.refl ws _ a) hm
 | o :: rest,a,dr,w,hd,hr,hm,h,hk=>by
  have hd':∀ d,o.dst=some d->d∈ws:=hd o (by simp)
  have hdr:∀ o∈rest,∀ d,o.dst=some d->d∈ws:=fun o ho=>hd o (by simp [ho])
  have hr1:r=none∨dz o=false:=hr.imp id fun h=>by simpa using (List.all_eq_true.1 h) o (by simp)
  have hr2:r=none∨rest.all (fun o=>!dz o)=true:=hr.imp id fun h=>by rw [List.all_cons,Bool.and_eq_true] at h;exact h.2
  have hk1:∀ {b:Bool}{x y:Act},bm ws b x y->((o :: rest).all (fun o=>!dz o)=true->b=true)->bm ws ((o :: rest).all fun o=>!dz o) x y:=fun h hb=>h.mono (fun _ hi=>hi) hb
  unfold wpListIn
  rcases gi h with ⟨hw,hy⟩ | ⟨hw,hn⟩
  ·rw [if_pos hw]
   refine oK hP hd' hr1 hm hy fun a1 dr1 w' hv hs hkp hm1=>?_
   refine gC hP rest a1 dr1 w' hdr hr2 hm1 hv fun a' dr' w'' hq hs' hkeep hm'=>hk a' dr' w'' hq (hs.trans hs') ((hk1 hkp fun h=>?_).trans (hk1 hkeep fun h=>?_)) hm'
   ·rw [List.all_cons,Bool.and_eq_true] at h;exact h.1
   ·rw [List.all_cons,Bool.and_eq_true] at h;exact h.2
  ·rw [if_neg (by simp [hw])]
   refine ⟨fun _ _=>trivial,?_⟩
   rw [iQ]
   refine gC hP rest (a.put o.dst undef) dr w hdr hr2 (by rw [eZ];exact hm) hn fun a' dr' w'' hq hs' hkeep hm'=>hk a' dr' w'' hq hs' ((bm.put hd').trans (hk1 hkeep fun h=>?_)) hm'
   rw [List.all_cons,Bool.and_eq_true] at h;exact h.2
end Kw
namespace Kw
open Go
section
variable {P:Program}{ops:Array Oper}{Q:Exit->Act->World->Prop}
abbrev md:Region.Mode:=.any
inductive Path (ops:Array Oper):Nat->Nat->Prop where
 | one {i j:Nat} (h:j∈ju ops i):Path ops i j
 | more {i j k:Nat} (h:j∈ju ops i) (h':Path ops j k):Path ops i k
theorem Path.snoc {i j k:Nat} (h:Path ops i j) (h':k∈ju ops j):Path ops i k:=by
 induction h with
 | one h=>exact .more h (.one h')
 | more h _ ih=>exact .more h (ih h')
theorem mg {i:Nat}:∀ (p:Nat) (acc:List Nat),(∀ x∈acc,Path ops i x)->∀ x∈tc ops p acc,Path ops i x
 | 0,_,h=>h
 | p+1,acc,h=>by
  unfold tc
  refine mg p _ ?_
  split
  ·rename_i hp
   intro x hx
   rcases List.mem_append.1 hx with hx | hx
   ·exact (h p (by simpa using hp)).snoc hx
   ·exact h x hx
  ·exact h
theorem vf {i x:Nat} (h:x∈FY ops i):Path ops i x:=mg i _ (fun _ hx=>.one hx) x h
def jG (ops:Array Oper) (listed:Array Bool):Prop:=∀ l,listed.getD l false=true->∀ p∈ju ops l,listed.getD p false=true
theorem je {j:Nat}{listed:Array Bool} (hj:j∈Region.ready md ops listed):∀ p∈ju ops j,listed.getD p false=true:=by
 obtain ⟨_,o,ho,hall⟩:=mem_ready.1 hj
 intro p hp
 simp only [ju,ho,List.mem_map,List.mem_filter] at hp
 obtain ⟨e,⟨he,hb⟩,rfl⟩:=hp
 exact hall e (by simpa using he) hb
theorem pg {listed:Array Bool} (hc:jG ops listed){i j:Nat} (h:Path ops i j):(∀ p∈ju ops i,listed.getD p false=true)->listed.getD j false=true:=by
 induction h with
 | one h=>exact fun hi=>hi _ h
 | more h _ ih=>exact fun hi=>ih (hc _ (hi _ h))
theorem jG.step {listed:Array Bool} (hc:jG ops listed){j:Nat} (hj:j∈Region.ready md ops listed):jG ops (listed.setIfInBounds j true):=by
 intro l hl p hp
 by_cases h:j=l
 ·subst h;exact getD_set_true (je hj p hp)
 ·rw [getD_set_ne false h] at hl;exact getD_set_true (hc l hl p hp)
abbrev Ob:=List (Nat × (World->Prop))
def cP (ops:Array Oper) (O:Ob) (i:Nat):Ob:=O.filter fun p=>!(FY ops i).contains p.1
def KX (O:Ob) (w:World):Prop:=∀ p∈O,p.2 w
theorem ft {O:Ob}{i:Nat}:∀ p∈cP ops O i,p∈O:=fun _ hp=>(List.mem_filter.1 hp).1
def dY (P:Program) (ops:Array Oper) (Q:Exit->Act->World->Prop):Nat->Ob->Array Bool->Act->World->Prop
 | 0,_,listed,a,w=>Region.ready md ops listed=[]∧Q .normal a w
 | fuel+1,O,listed,a,w =>
  (Region.ready md ops listed=[]->Q .normal a w) ∧
  ∀ i∈Region.ready md ops listed,wpOp P ops Q i (fun a' w'=>KX (cP ops O i) w'∧dY P ops Q fuel (cP ops O i) (listed.setIfInBounds i true) a' w') a w
theorem lT:∀ (fuel:Nat) (O:Ob) (listed:Array Bool) (a:Act) (w:World),dY P ops Q fuel O listed a w->wpAny P md ops Q fuel listed a w
 | 0,_,_,_,_,h=>h
 | fuel+1,_,_,_,_,h=>⟨h.1,fun i hi=>wpOp_mono (fun a' w' h'=>lT fuel _ _ a' w' h'.2) (h.2 i hi)⟩
theorem gz:∀ (fuel:Nat) (O O':Ob) (listed:Array Bool) (a:Act) (w:World),(∀ p∈O',p∈O)->dY P ops Q fuel O listed a w->dY P ops Q fuel O' listed a w
 | 0,_,_,_,_,_,_,h=>h
 | fuel+1,O,O',listed,a,w,hs,h=>by
  have hs':∀ i,∀ p∈cP ops O' i,p∈cP ops O i:=fun i p hp=>by
   obtain ⟨h1,h2⟩:=List.mem_filter.1 hp
   exact List.mem_filter.2 ⟨hs p h1,h2⟩
  exact ⟨h.1,fun i hi=>wpOp_mono (fun a' w' h'=>⟨fun p hp=>h'.1 p (hs' i p hp),gz fuel _ _ _ a' w' (hs' i) h'.2⟩) (h.2 i hi)⟩
theorem oM {i:Nat}{oi:Oper}{v:Value}{S:World->Prop} (hi:ops[i]?=some oi) (hsel:∀ (j:Nat) (o:Oper) cs b,ops[j]?=some o->o.op≠.select cs b)
  (hQ:∀ c a w,Q (.panic c) (a.put oi.dst v) w->Q (.panic c) a w) :
  ∀ (fuel:Nat) (O:Ob) (listed:Array Bool) (a:Act) (w:World),
   (∀ j oj,ops[j]?=some oj->j≠i->listed.getD j true=false->(∀ e∈oj.after,Region.binds md e=true->e.on≠i)->oi.apart ops oj=true) ->
   jG ops listed->i∈Region.ready md ops listed->YieldsIf P ops S oi v a->S w->KX O w ->
   dY P ops Q fuel ((i,S) :: O) (listed.setIfInBounds i true) (a.put oi.dst v) w->dY P ops Q (fuel+1) O listed a w:=by
 intro fuel
 induction fuel with
 | zero =>
  intro O listed a w _ _ hr hy hS hO H
  refine ⟨fun h=>(by rw [h] at hr;cases hr),fun j hj=>?_⟩
  by_cases hji:j=i
  ·subst hji;exact hy.wpOp hi hS ⟨fun p hp=>hO p (ft p hp),H⟩
  ·have:=ready_mono hj hji
   rw [H.1] at this
   cases this
 | succ fuel ih =>
  intro O listed a w hfree hcl hr hy hS hO H
  refine ⟨fun h=>(by rw [h] at hr;cases hr),fun j hj=>?_⟩
  by_cases hji:j=i
  ·subst hji;exact hy.wpOp hi hS ⟨fun p hp=>hO p (ft p hp),gz _ _ _ _ _ _ (fun p hp=>List.mem_cons_of_mem _ (ft p hp)) H⟩
  ·have h1:=H.2 j (ready_mono hj hji)
   obtain ⟨hjun,oj,hoj,hall⟩:=mem_ready.1 hj
   have hiun:listed.getD i false=false:=by
    have h0:=(mem_ready.1 hr).1
    rcases Nat.lt_or_ge i listed.size with h' | h'
    ·simp [h'] at h0 ⊢;exact h0
    ·simp [Array.getElem?_eq_none h']
   have hnot:∀ e∈oj.after,Region.binds md e=true->e.on≠i:=fun e he hb heq=>by
    have h1:=hall e he hb
    rw [heq,hiun] at h1
    cases h1
   have hnp:(FY ops j).contains i=false:=by
    cases hc:(FY ops j).contains i with
    | false=>rfl
    | true =>
     have:=pg hcl (vf (by simpa using hc)) (je hj)
     rw [hiun] at this
     cases this
   have hdr:cP ops ((i,S) :: O) j=(i,S) :: cP ops O j:=by
    unfold cP
    rw [List.filter_cons_of_pos (by simpa using hnp)]
   rw [hdr] at h1
   have h2:=wpOp_putIf hoj (hfree j oj hoj hji hjun hnot) (fun cs b=>hsel i oi cs b hi) (fun cs b=>hsel j oj cs b hoj) hQ hy h1
   have hfree':∀ k ok,ops[k]?=some ok->k≠i->(listed.setIfInBounds j true).getD k true=false ->
     (∀ e∈ok.after,Region.binds md e=true->e.on≠i)->oi.apart ops ok=true:=fun k ok hk hki hun hno=>by
    refine hfree k ok hk hki ?_ hno
    by_cases hjk:j=k
    ·subst hjk;exact hjun
    ·rw [getD_set_ne true hjk] at hun;exact hun
   refine wpOp_mono (fun a' w' h3=>?_) h2
   have hob:KX (cP ops O j) w':=fun p hp=>h3.2.1 p (List.mem_cons_of_mem _ hp)
   refine ⟨hob,ih (cP ops O j) (listed.setIfInBounds j true) a' w' hfree' (hcl.step hj) (ready_mono hr (Ne.symm hji)) h3.1 (h3.2.1 (i,S) (by simp)) hob ?_⟩
   rw [Array.setIfInBounds_comm _ _ hji]
   exact h3.2.2
def qS (held:List (Nat × List (Addr × Value))):Ob:=held.map fun h=>(h.1,fun w=>fx h.2 w.heap)
theorem py (held:List (Nat × List (Addr × Value))) (i:Nat):cP ops (qS held) i=qS (jK ops i held):=by
 unfold cP qS jK
 rw [List.filter_map]
 rfl
theorem jg {held:List (Nat × List (Addr × Value))}{w:World}:Holds held w.heap↔KX (qS held) w:=by
 induction held with
 | nil=>exact ⟨fun _ p hp=>by simp [qS] at hp,fun _=>trivial⟩
 | cons h r ih =>
  obtain ⟨i,l⟩:=h
  constructor
  ·rintro ⟨h1,h2⟩ p hp
   rcases List.mem_cons.1 hp with rfl | hp
   ·exact h1
   ·exact ih.1 h2 p hp
  ·intro h
   exact ⟨h _ (List.mem_cons_self ..),ih.2 fun p hp=>h p (List.mem_cons_of_mem _ hp)⟩
theorem lD:∀ {l:List Nat}{p:Nat->Prop},qZ l p->∀ i∈l,p i
 | [],_,_,_,hi=>by simp at hi
 | [i],_,h,j,hj=>by simp at hj;subst hj;exact h
 | i :: k :: r,_,h,j,hj=>by
  rcases List.mem_cons.1 hj with rfl | hj
  ·exact h.1
  ·exact lD h.2 j hj
theorem sB {P:Program}{ops:Array Oper}{Q':Exit->Act->World->Prop}{i:Nat}:∀ (n:Nat) (O:Ob) (listed:Array Bool) (a:Act) (w:World),dY P ops Q' n O listed a w->dY P ops Q' n ((i,fun _=>True) :: O) listed a w
 | 0,_,_,_,_,h=>h
 | n+1,O,listed,a,w,h=>by
  refine ⟨h.1,fun j hj=>wpOp_mono (fun a' w' h'=>?_) (h.2 j hj)⟩
  have hsub:∀ p∈cP ops ((i,fun _=>True) :: O) j,p∈(i,fun _=>True) :: cP ops O j:=fun p hp=>by
   obtain ⟨h1,h2⟩:=List.mem_filter.1 hp
   rcases List.mem_cons.1 h1 with rfl | h1
   ·exact List.mem_cons_self ..
   ·exact List.mem_cons_of_mem _ (List.mem_filter.2 ⟨h1,h2⟩)
  refine ⟨fun p hp=>?_,gz _ _ _ _ _ _ hsub (sB n _ _ a' w' h'.2)⟩
  rcases List.mem_cons.1 (hsub p hp) with rfl | hp
  ·trivial
  ·exact h'.1 p hp
theorem dJ {P:Program} (hP:GoodPg P){ops:Array Oper}{Q:Act->ae->Prop}{Q':Exit->Act->World->Prop}{ws:List Nat} (hws:∀ (i:Nat) (o:Oper),ops[i]?=some o->∀ d,o.dst=some d->d∈ws)
  (hsel:Region.noSelect ops=true){dr:List Deferred} (hQ:∀ c a w,¬ Q' (.panic c) a w):∀ (n:Nat) (listed:Array Bool) (held:List (Nat × List (Addr × Value))) (a:Act) (w:World),
  jG ops listed->Holds held w.heap->eW P ops Q n listed held a w.heap->(∀ a' w',Q a' w'.heap->bE w w'->bm ws true a a'->Q' .normal (Act.re a' dr) w')->dY P ops Q' n (qS held) listed (Act.re a dr) w
 | 0,listed,held,a,w,_,_,h,hk=>by
  simp only [eW] at h
  split at h
  ·rename_i hr;exact ⟨by simpa using hr,hk a w h (bE.refl w) (bm.refl ws true a)⟩
  ·exact h.elim
 | n+1,listed,held,a,w,hcl,hheld,h,hk=>by
  simp only [eW] at h
  split at h
  ·rename_i i hq
   split at h
   ·rename_i o hfree ho
    have hd:∀ d,o.dst=some d->d∈ws:=hws i o ho
    have hir:i∈Region.ready md ops listed:=List.mem_of_find?_eq_some hq
    have take:∀ (v:Value) (S:World->Prop) (held':List (Nat × List (Addr × Value))),(∀ p∈qS held',p∈(i,S) :: qS held)->dY P ops Q' n ((i,S) :: qS held) (listed.setIfInBounds i true) (Act.re (a.put o.dst v) dr) w->YieldsIf P ops S o v (Act.re a dr)->S w->dY P ops Q' (n+1) (qS held) listed (Act.re a dr) w :=
     fun v S held' _ H hy hS=>oM ho (Region.noSelect_spec hsel) (fun c a w h=>(hQ c _ w h).elim) n (qS held) listed (Act.re a dr) w (Region.free_spec ho hfree) hcl hir hy hS (jg.1 hheld) (by rw [iQ];exact H)
    have rest:∀ (v:Value) (held':List (Nat × List (Addr × Value))),Holds held' w.heap->eW P ops Q n (listed.setIfInBounds i true) held' (a.put o.dst v) w.heap->dY P ops Q' n (qS held') (listed.setIfInBounds i true) (Act.re (a.put o.dst v) dr) w :=
     fun v held' hh hv=>dJ hP hws hsel hQ n _ held' _ w (hcl.step hir) hh hv fun a' w'' hq hs hkeep=>hk a' w'' hq hs ((bm.put hd).trans hkeep)
    have plain:∀ (v:Value),YieldsIf P ops (fun _=>True) o v (Act.re a dr)->eW P ops Q n (listed.setIfInBounds i true) held (a.put o.dst v) w.heap->dY P ops Q' (n+1) (qS held) listed (Act.re a dr) w:=by
     intro v hy hv
     refine take v (fun _=>True) ((i,[]) :: held) (fun p hp=>?_) ?_ hy trivial
     ·rcases List.mem_cons.1 hp with rfl | hp
      ·exact List.mem_cons_self ..
      ·exact List.mem_cons_of_mem _ hp
     ·have:=dJ hP hws hsel hQ n (listed.setIfInBounds i true) held (a.put o.dst v) w (hcl.step hir) hheld hv fun a' w'' hq hs hkeep=>hk a' w'' hq hs ((bm.put hd).trans hkeep)
      exact sB n (qS held) (listed.setIfInBounds i true) _ w this
    rcases gi h with ⟨hw,hy⟩ | ⟨hw,hn⟩
    ·split at hy
     ·obtain ⟨v,hv,hr⟩:=jj hy
      exact plain v (.inl ⟨hw,fun w _=>by rw [eI];exact hr w⟩) hv
     ·rename_i hpure
      split at hy
      ·rename_i t x hop
       split at hy
       ·rename_i ad hx
        obtain ⟨v,cs,hv,hc,hr⟩:=gL hy
        refine take v (fun w=>fx cs w.heap) ((i,cs) :: held) (fun p hp=>hp) (rest v ((i,cs) :: held) ⟨hc,hheld⟩ hv) (.inl ⟨hw,fun w' hw'=>?_⟩) hc
        obtain ⟨dst,op,type,pos,after,guard⟩:=o
        simp only at hop
        subst hop
        refine nD ?_
        simp only [eI,hx,Instr.loadAt,Instr.sureAddr,Sem.run_bind,Sem.run_pure,Result.andThen_ok]
        exact hr w' hw'
       ·exact hy.elim
      ·exact hy.elim
    ·exact plain undef (.inr ⟨hw,rfl⟩) hn
   ·exact h.elim
  ·split at h
   ·rename_i hr
    refine ⟨fun _=>hk a w h (bE.refl w) (bm.refl ws true a),fun i hi=>?_⟩
    rw [show Region.ready md ops listed=[] from hr] at hi
    cases hi
   ·rename_i hne
    refine ⟨fun hr=>absurd hr hne,fun i hi=>?_⟩
    have hi':=lD h i hi
    have hcl':=hcl.step hi
    split at hi'
    ·rename_i o ho
     have hd:∀ d,o.dst=some d->d∈ws:=hws i o ho
     rw [py]
     unfold wpOp
     simp only [ho]
     rcases gi hi' with ⟨hw,hy⟩ | ⟨hw,hn⟩
     ·rw [if_pos hw]
      refine .inl (lz hP (a:=Act.re a dr) (by rw [eI];exact hy) fun v w' hv hs=>?_)
      rw [iQ]
      exact ⟨jg.1 hv.1,dJ hP hws hsel hQ n _ _ _ w' hcl' hv.1 hv.2 fun a' w'' hq hs' hkeep=>hk a' w'' hq (hs.trans hs') ((bm.put hd).trans hkeep)⟩
     ·rw [if_neg (by simp [hw])]
      have hh:Holds (jK ops i held) w.heap:=jg.2 fun p hp=>jg.1 hheld p (by rw [←py] at hp;exact ft p hp)
      rw [iQ]
      exact ⟨jg.1 hh,dJ hP hws hsel hQ n _ _ _ w hcl' hh hn fun a' w'' hq hs' hkeep=>hk a' w'' hq hs' ((bm.put hd).trans hkeep)⟩
    ·exact hi'.elim
end
end Kw
namespace Kw
open Go
def zt:Exit->Prop
 | .panic _ | .outgrown=>False
 | _=>True
def CZ (Q:lZ) (c:Code) (m:Nat) (a:Act) (l:List Nat) (w:World):Exit->Act->World->Prop:=fun e ar w' =>
 zt e∧∃ a' l',ar=Act.re a' ar.defers∧Q e a' w'.heap∧bE w w'∧bm (co c) (bi c) a a'∧MixD m w'.heap ar.defers a'.defers l'∧(bC c=true->l'=l)
theorem Act.ext' {a b:Act} (h1:a.tmps=b.tmps) (h2:a.defers=b.defers):a=b:=by
 cases a;cases b;simp only at h1 h2;subst h1;subst h2;rfl
theorem oz {a:Act}{i:Nat} (h:i<a.tmps.size):a.tmps[i]?=some (a.tmps.getD i undef):=by
 simp [h]
theorem kC {ws:List Nat}{a':Act}:∀ (l:List Nat) (b:Act),(∀ i∈l,i∈ws)->bm ws true a' b ->
  bm ws true a' (nR b l fun i=>a'.tmps.getD i undef)∧∀ i,(i∈l∨b.tmps[i]?=a'.tmps[i]?)->(nR b l fun i=>a'.tmps.getD i undef).tmps[i]?=a'.tmps[i]?
 | [],b,_,hk=>⟨hk,fun i hi=>hi.resolve_left (by simp)⟩
 | j :: l,b,hl,hk=>by
  have hk':bm ws true a' (b.put (some j) (a'.tmps.getD j undef)):=hk.trans (bm.put (by rintro d ⟨⟩;exact hl j (by simp)))
  obtain ⟨h1,h2⟩:=kC l (b.put (some j) (a'.tmps.getD j undef)) (fun i hi=>hl i (by simp [hi])) hk'
  refine ⟨h1,fun i hi=>h2 i ?_⟩
  by_cases hij:i=j
  ·subst hij
   right
   simp only [Act.put]
   by_cases hlt:i<a'.tmps.size
   ·rw [Array.getElem?_setIfInBounds_self_of_lt (by rw [hk.1];exact hlt)];exact (oz hlt).symm
   ·have e1:a'.tmps[i]?=none:=Array.getElem?_eq_none (by omega)
    have e2:(b.tmps.setIfInBounds i (a'.tmps.getD i undef))[i]?=none:=Array.getElem?_eq_none (by rw [Array.size_setIfInBounds,hk.1];omega)
    rw [e1];exact e2
  ·rcases hi with hi | hi
   ·rcases List.mem_cons.1 hi with rfl | hi
    ·exact absurd rfl hij
    ·exact .inl hi
   ·right
    simp only [Act.put]
    rw [Array.getElem?_setIfInBounds_ne (Ne.symm hij)]
    exact hi
theorem tp {ws:List Nat}{a a':Act} (h:bm ws true a a'):nR a ws (fun i=>a'.tmps.getD i undef)=a':=by
 have hk:bm ws true a' a:=⟨h.1.symm,fun _=>(h.2.1 rfl).symm,fun i hi=>(h.2.2 i hi).symm⟩
 obtain ⟨h1,h2⟩:=kC (a':=a') ws a (fun _ hi=>hi) hk
 refine Act.ext' ?_ (h1.2.1 rfl)
 apply Array.ext_getElem?
 intro i
 by_cases hi:i∈ws
 ·exact h2 i (.inl hi)
 ·exact h2 i (.inr (h.2.2 i hi).symm)
theorem kF {a:Act}:∀ {ps:List (Nat × Value)},(∀ p∈ps,p.2=a.tmps.getD p.1 undef)->ly a ps=a
 | [],_=>rfl
 | (t,v) :: r,h=>by
  have h0:v=a.tmps.getD t undef:=h (t,v) (by simp)
  have:a.put (some t) v=a:=by
   by_cases ht:t<a.tmps.size
   ·exact fK (by rw [h0];exact oz ht)
   ·refine Act.ext' ?_ rfl
    simp only [Act.put,Array.setIfInBounds]
    rw [dif_neg ht]
  show ly (a.put (some t) v) r=a
  rw [this]
  exact kF fun p hp=>h p (by simp [hp])
theorem jb {P:Program}:∀ {L:List (Nat × TypeId)}{k:List (Nat × Value)->Prop},oo P L k->∃ ps,ps.map (·.1)=L.map (·.1)∧k ps
 | [],_,h=>⟨[],rfl,h⟩
 | (t,ty) :: r,k,h=>by
  obtain ⟨v,h⟩:=jc h
  obtain ⟨ps,hp,h⟩:=jb h
  exact ⟨_,by simp [hp],h⟩
theorem kj {a':Act}:∀ {L:List (Nat × TypeId)}{ps:List (Nat × Value)},ps.map (·.1)=L.map (·.1)->de a' L=ps.map (·.2)->∀ p∈ps,p.2=a'.tmps.getD p.1 undef
 | [],[],_,_,p,hp=>by simp at hp
 | _ :: _,[],h,_,_,_=>by simp at h
 | [],_ :: _,h,_,_,_=>by simp at h
 | (t,ty) :: L,(s,v) :: ps,h,h',p,hp=>by
  simp only [List.map_cons,List.cons.injEq] at h
  simp only [de,List.map_cons,List.cons.injEq] at h'
  rcases List.mem_cons.1 hp with rfl | hp
  ·simp only [h.1,h'.1]
  ·exact kj h.2 h'.2 p hp
theorem iz {P:Program}{ws:List Nat}{L:List (Nat × TypeId)}{a a':Act}{K:Act->ae->Prop}{H:ae} (h:ld P ws L a K (de a' L) H) (hk:bm ws true a a'):K a' H:=by
 obtain ⟨ps,hp,hs,h⟩:=jb (h fun i=>a'.tmps.getD i undef)
 rw [tp hk,kF (kj hp hs)] at h
 exact h
theorem jr {r:Option Nat}{c c':Code} (h:r=none∨(bY c=true∧bi c=true)) (h1:bY c=true->bY c'=true) (h2:bi c=true->bi c'=true):r=none∨(bY c'=true∧bi c'=true) :=
 h.imp id fun h=>⟨h1 h.1,h2 h.2⟩
theorem mZ {Q:Nat->ae->Prop}:∀ {l:List Nat}{id:Nat}{H:ae},sm (l.map fun i=>(i,Q i)) id H->Q id H
 | [],_,_,h=>h.elim
 | i :: l,id,H,h=>by
  simp only [List.map_cons,sm] at h
  split at h
  ·rename_i e;rw [of_decide_eq_true e];exact h
  ·exact mZ h
theorem cC {P:Program} (hP:GoodPg P){Ls:uC}{r:Option Nat}{m:Nat}:∀ (c:Code) (Q:lZ) (a:Act) (dr:List Deferred) (l:List Nat) (w:World),(r=none∨(bY c=true∧bi c=true))->m<=w.heap.size->MixD m w.heap dr a.defers l ->
  ev P Ls c Q a w.heap->c.wpIn (FR r) 0 P (CZ Q c m a l w) (Act.re a dr) w
 | .skip,Q,a,dr,l,w,_,_,hm,h=>wpIn_skip ⟨trivial,a,l,rfl,h,bE.refl w,bm.refl _ _ a,hm,fun _=>rfl⟩
 | .label _,Q,a,dr,l,w,_,_,hm,h=>wpIn_label ⟨trivial,a,l,rfl,h,bE.refl w,bm.refl _ _ a,hm,fun _=>rfl⟩
 | .region id ops draw,Q,a,dr,l,w,hr,_,hm,h=>by
  have hws:∀ (i:Nat) (o:Oper),ops[i]?=some o->∀ d,o.dst=some d->d∈co (.region id ops draw):=fun i o ho d hd =>
   List.mem_filterMap.2 ⟨o,by simpa using Array.mem_of_getElem? ho,hd⟩
  simp only [ev] at h
  split at h
  ·refine wpIn_region_list (gC hP ops.toList a dr w (fun o ho d hd=>List.mem_filterMap.2 ⟨o,ho,hd⟩) (hr.imp (fun h=>h) fun h=>h.2) hm h ?_)
   exact fun a' dr' w' hq hs hk hm'=>⟨trivial,a',l,rfl,hq,hs,hk,hm',fun _=>rfl⟩
  ·have hrn:r=none:=hr.resolve_right (by simp [bY])
   subst hrn
   split at h
   ·rename_i hsel
    refine wpIn_wide.2 (wp_region_any hP.mixed (lT _ (qS []) _ _ _ ?_))
    refine dJ hP hws hsel (dr:=dr) (fun c a w h=>h.1) ops.size _ [] a { w with drawn:=w.drawn+1 } ?_ trivial h ?_
    ·intro l hl
     by_cases hlt:l<ops.size <;> simp [hlt] at hl
    ·exact fun a' w' hq hs hk=>⟨trivial,a',l,rfl,hq,⟨hs.1,hs.2.1,hs.2.2.1,Nat.le_trans (Nat.le_succ _) hs.2.2.2.1,hs.2.2.2.2⟩,hk.mono (fun _ hi=>hi) (fun _=>rfl),by rw [hk.2.1 rfl];exact hm.keep hs.2.2.2.2,fun _=>rfl⟩
   ·exact h.elim
 | .seq x y,Q,a,dr,l,w,hr,hsz,hm,h=>by
  have hx:∀ i∈co x,i∈co (.seq x y):=fun i hi=>List.mem_append_left _ hi
  have hy:∀ i∈co y,i∈co (.seq x y):=fun i hi=>List.mem_append_right _ hi
  have dx:bi (.seq x y)=true->bi x=true:=fun h=>by simp only [bi,Bool.and_eq_true] at h;exact h.1
  have dy:bi (.seq x y)=true->bi y=true:=fun h=>by simp only [bi,Bool.and_eq_true] at h;exact h.2
  have rx:bC (.seq x y)=true->bC x=true:=fun h=>by simp only [bC,Bool.and_eq_true] at h;exact h.1
  have ry:bC (.seq x y)=true->bC y=true:=fun h=>by simp only [bC,Bool.and_eq_true] at h;exact h.2
  have hrx:=jr (c':=x) hr (fun h=>by simp only [bY,Bool.and_eq_true] at h;exact h.1) dx
  have hry:=jr (c':=y) hr (fun h=>by simp only [bY,Bool.and_eq_true] at h;exact h.2) dy
  simp only [ev] at h
  split at h
  ·refine wpIn_seq (wpIn_mono (cC hP x _ a dr l w hrx hsz hm h) ?_)
   rintro e ar w' ⟨hp,a',l',ha,hq,hs,hk,hm',hl⟩
   cases e with
   | normal =>
    rw [ha]
    refine wpIn_mono (cC hP y Q a' ar.defers l' w' hry (Nat.le_trans hsz hs.2.2.2.2.1) hm' hq) ?_
    rintro e ar' w'' ⟨hp',a'',l'',ha',hq',hs',hk',hm'',hl'⟩
    exact ⟨hp',a'',l'',ha',hq',hs.trans hs',(hk.mono hx dx).trans (hk'.mono hy dy),hm'',fun h=>(hl' (ry h)).trans (hl (rx h))⟩
   | panic c=>exact hp.elim
   | outgrown=>exact hp.elim
   | _=>exact ⟨trivial,a',l',ha,hq,hs,hk.mono hx dx,hm',fun h=>hl (rx h)⟩
  ·rename_i L hL
   split at h
   ·rename_i hnd
    obtain ⟨J,h1,h2⟩:=h
    refine wpIn_seq (wpIn_mono (cC hP x _ a dr l w hrx hsz hm h1) ?_)
    rintro e ar w' ⟨hp,a',l',ha,hq,hs,hk,hm',hl⟩
    cases e with
    | normal =>
     rw [ha]
     have hq':=iz (h2 _ _ hq) (hk.mono (fun _ hi=>hi) fun _=>hnd)
     refine wpIn_mono (cC hP y Q a' ar.defers l' w' hry (Nat.le_trans hsz hs.2.2.2.2.1) hm' hq') ?_
     rintro e ar' w'' ⟨hp',a'',l'',ha',hq',hs',hk',hm'',hl'⟩
     exact ⟨hp',a'',l'',ha',hq',hs.trans hs',(hk.mono hx dx).trans (hk'.mono hy dy),hm'',fun h=>(hl' (ry h)).trans (hl (rx h))⟩
    | panic c=>exact hp.elim
    | outgrown=>exact hp.elim
    | _=>exact ⟨trivial,a',l',ha,hq,hs,hk.mono hx dx,hm',fun h=>hl (rx h)⟩
   ·exact h.elim
 | .cond c x y,Q,a,dr,l,w,hr,hsz,hm,h=>by
  have hx:∀ i∈co x,i∈co (.cond c x y):=fun i hi=>List.mem_append_left _ hi
  have hy:∀ i∈co y,i∈co (.cond c x y):=fun i hi=>List.mem_append_right _ hi
  have dx:bi (.cond c x y)=true->bi x=true:=fun h=>by simp only [bi,Bool.and_eq_true] at h;exact h.1
  have dy:bi (.cond c x y)=true->bi y=true:=fun h=>by simp only [bi,Bool.and_eq_true] at h;exact h.2
  have rx:bC (.cond c x y)=true->bC x=true:=fun h=>by simp only [bC,Bool.and_eq_true] at h;exact h.1
  have ry:bC (.cond c x y)=true->bC y=true:=fun h=>by simp only [bC,Bool.and_eq_true] at h;exact h.2
  have hrx:=jr (c':=x) hr (fun h=>by simp only [bY,Bool.and_eq_true] at h;exact h.1) dx
  have hry:=jr (c':=y) hr (fun h=>by simp only [bY,Bool.and_eq_true] at h;exact h.2) dy
  simp only [ev] at h
  split at h
  ·rename_i b hb
   have same:∀ t,c=.tmp t->a.put (some t) (.bool b)=a:=by
    rintro t rfl
    refine fK ?_
    simp only [Act.eval] at hb
    by_cases ht:t<a.tmps.size
    ·rw [oz ht,hb]
    ·have:a.tmps.getD t undef=undef:=by simp [ht]
     rw [this] at hb;cases hb
   have h:cond b (ev P Ls x Q a w.heap) (ev P Ls y Q a w.heap):=by
    cases c with
    | tmp t =>
     have e:=same t rfl
     cases b
     ·simp only [e,cond_false] at h ⊢;exact h
     ·simp only [e,cond_true] at h ⊢;exact h
    | _=>exact h
   have hb':(Act.re a dr).eval c=.bool b:=by rw [eI];exact hb
   cases b
   ·exact wpIn_cond_false hb' (wpIn_mono (cC hP y Q a dr l w hry hsz hm h) fun e ar w' ⟨h1,a',l',h2,h3,h4,h5,h6,h7⟩=>⟨h1,a',l',h2,h3,h4,h5.mono hy dy,h6,fun h=>h7 (ry h)⟩)
   ·exact wpIn_cond_true hb' (wpIn_mono (cC hP x Q a dr l w hrx hsz hm h) fun e ar w' ⟨h1,a',l',h2,h3,h4,h5,h6,h7⟩=>⟨h1,a',l',h2,h3,h4,h5.mono hx dx,h6,fun h=>h7 (rx h)⟩)
  ·exact h.elim
 | .block id b,Q,a,dr,l,w,hr,hsz,hm,h=>by
  simp only [ev] at h
  refine wpIn_block (wpIn_mono (cC hP b _ a dr l w hr hsz hm h) ?_)
  rintro e ar w' ⟨hp,a',l',ha,hq,hs,hk,hm',hl⟩
  cases e with
  | exit id' =>
   simp only [oQ] at hq
   simp only [Exit.inBlock]
   split at hq
   ·rename_i hid;rw [if_pos (of_decide_eq_true hid)];exact ⟨trivial,a',l',ha,hq,hs,hk,hm',hl⟩
   ·rename_i hid;rw [if_neg (of_decide_eq_false hid)];exact ⟨trivial,a',l',ha,hq,hs,hk,hm',hl⟩
  | panic c=>exact hp.elim
  | outgrown=>exact hp.elim
  | _=>exact ⟨trivial,a',l',ha,hq,hs,hk,hm',hl⟩
 | .loop b,Q,a,dr,l,w,hr,hsz,hm,h=>by
  simp only [ev] at h
  split at h
  ·exact h.elim
  ·rename_i L hL
   split at h
   ·rename_i hnd
    obtain ⟨I,μ,h0,h⟩:=h
    refine wpIn_loop (fun ar w'=>∃ a' l',ar=Act.re a' ar.defers∧I (de a' L) w'.heap∧bE w w'∧bm (co b) true a a'∧MixD m w'.heap ar.defers a'.defers l'∧(bC b=true->l'=l)) (fun ar w'=>μ (de ar L) w'.heap) ⟨a,l,rfl,h0,bE.refl w,bm.refl _ _ a,hm,fun _=>rfl⟩ ?_
    rintro ar w' ⟨a',l',ha,hI,hs,hk,hm',hl⟩
    have hb:=iz (h _ _ hI) hk
    have hw:=cC hP b _ a' ar.defers l' w' hr (Nat.le_trans hsz hs.2.2.2.2.1) hm' hb
    rw [←ha] at hw
    refine wpIn_mono hw ?_
    rintro e ar' w'' ⟨hp',a'',l'',ha',hq',hs',hk',hm'',hl'⟩
    have hk2:bm (co b) true a' a'':=hk'.mono (fun _ hi=>hi) fun _=>hnd
    cases e with
    | normal =>
     refine ⟨⟨a'',l'',ha',hq'.1,hs.trans hs',hk.trans hk2,hm'',fun h=>(hl' h).trans (hl h)⟩,?_⟩
     have e1:de ar' L=de a'' L:=by rw [ha'];rfl
     have e2:de ar L=de a' L:=by rw [ha];rfl
     rw [e1,e2];exact hq'.2
    | panic c=>exact hp'.elim
    | outgrown=>exact hp'.elim
    | _=>exact ⟨trivial,a'',l'',ha',hq',hs.trans hs',(hk.trans hk2).mono (fun _ hi=>hi) fun _=>rfl,hm'',fun h=>(hl' h).trans (hl h)⟩
   ·exact h.elim
 | .exit id,Q,a,dr,l,w,_,_,hm,h=>wpIn_exit ⟨trivial,a,l,rfl,h,bE.refl w,bm.refl _ _ a,hm,fun _=>rfl⟩
 | .ret,Q,a,dr,l,w,_,_,hm,h=>wpIn_ret ⟨trivial,a,l,rfl,h,bE.refl w,bm.refl _ _ a,hm,fun _=>rfl⟩
 | .rangeFunc g ps assign body,Q,a,dr,l,w,hr,hsz,hm,h=>by
  have hrn:r=none:=hr.resolve_right (by simp [bY])
  subst hrn
  simp only [ev] at h
  split at h
  ·rename_i gf first lb hg
   refine wpIn_rangeFunc ?_
   intro fn _
   obtain ⟨⟨f',hf',hfb⟩,hc⟩:=h fn
   have hc:=hc { w with heap:=(w.heap.push (.deferred (some []))).push (.loop (hE fn a.tmps ps assign body w.heap.size)) } rfl
   obtain ⟨W1,hW1⟩:∃ W1:World,W1={ w with heap:=(w.heap.push (.deferred (some []))).push (.loop (hE fn a.tmps ps assign body w.heap.size)) }:=⟨_,rfl⟩
   rw [←hW1] at hc
   refine ⟨w.heap.size+1,[⟨.collected w.heap.size,#[]⟩],W1,⟨.fn (.func gf) lb,first++#[.func (.yield (w.heap.size+1)) #[] #[]]⟩,W1,gf,(first++#[.func (.yield (w.heap.size+1)) #[] #[]])++lb,W1,(by rw [hW1];exact run_enterLoop_outer fn a.tmps ps assign body),?_,fun _ _=>trivial,?_,fun h=>(by cases h),?_⟩
   ·have hg':(Act.re a dr).eval g=.func (.func gf) first lb:=by rw [eI];exact hg
    simp only [resolve,hg',Deferred.ofValue,Sem.run_pure]
    simp only [List.map_toArray,List.map_cons,List.map_nil]
    rfl
   ·exact gg hP hf' hfb ((first++#[.func (.yield (w.heap.size+1)) #[] #[]])++lb) _
   ·refine lO (r:=none) (hc.mono ?_)
    rintro e w3 ⟨v,rfl,hq,hs⟩
    obtain ⟨rr,hl3,hbz,hj⟩:=hq
    rw [hW1] at hs
    have hsw:bE w w3:=(bE.heap (w:=w) ((bM.push _ _).trans (bM.push _ _))).trans hs
    obtain ⟨o,ho⟩:∃ o,o=({ rr with state:=.exhausted }:Loop):=⟨_,rfl⟩
    have hend:=run_endLoop (P:=P) hl3 hbz
    simp only [←ho] at hj hend
    have hk4:bM w3.heap (w3.heap.setIfInBounds (w.heap.size+1) (.loop o)):=bM.setObj hl3 (by simp)
    have hs4:bE w (w3.putObj (w.heap.size+1) (.loop o)):=hsw.trans (bE.heap (w:=w3) hk4)
    have hD:w3.heap[w.heap.size]?=some (.deferred (some [])):=hs.2.2.2.2.2 _ _ (by
     show ((w.heap.push (.deferred (some []))).push (.loop (hE fn a.tmps ps assign body w.heap.size)))[w.heap.size]?=_
     rw [Array.getElem?_push,if_neg (by simp),Array.getElem?_push_size])
    have hm4:MixD m (w3.putObj (w.heap.size+1) (.loop o)).heap (⟨.collected w.heap.size,#[]⟩ :: dr) a.defers (w.heap.size :: l) :=
     .mark (hk4.2 _ _ hD) hsz (fun hin=>by have:=(hm.lt _ hin).2;rw [Array.getElem?_eq_none (Nat.le_refl _)] at this;cases this) (hm.keep hs4.2.2.2.2)
    refine ⟨rr.pending,_,hend,?_⟩
    split at hj
    ·rename_i hp;simp only [hp]
     exact ⟨trivial,a,_,rfl,hj,hs4,bm.refl _ _ a,hm4,fun h=>by cases h⟩
    ·rename_i hp;simp only [hp]
     exact wpIn_ret ⟨trivial,a,_,rfl,hj,hs4,bm.refl _ _ a,hm4,fun h=>by cases h⟩
    ·rename_i id hp;simp only [hp]
     exact wpIn_exit ⟨trivial,a,_,rfl,mZ (Q:=fun i=>Q (.exit i) a) hj,hs4,bm.refl _ _ a,hm4,fun h=>by cases h⟩
    ·exact hj.elim
  ·exact h.elim
 | .scope _,_,_,_,_,_,_,_,_,h=>h.elim
 | .goto _,_,_,_,_,_,_,_,_,h=>h.elim
 | .refuse _,_,_,_,_,_,_,_,_,h=>h.elim
def ox (tmps:Array Value):ResultVar->Sem Value
 | .tmp t=>pure (tmps.getD t undef)
 | .cell a t=>do loadVar t (← asAddr (tmps.getD a undef))
theorem j0 {P:Program}{a:Act}{w:World}:∀ {l:List ResultVar}{k:List Value->Prop},my P a w.heap l k->∃ vs,k vs∧(l.mapM (ox a.tmps)).run P w=.ok vs w
 | [],_,h=>⟨[],h,rfl⟩
 | .tmp t :: r,k,h=>by
  obtain ⟨vs,hk,hr⟩:=j0 (l:=r) h
  exact ⟨_,hk,by simp [List.mapM_cons,ox,hr]⟩
 | .cell x t :: r,k,h=>by
  simp only [my] at h
  split at h
  ·rename_i ad hx
   obtain ⟨v,cs,h,hc,hr1⟩:=gL h
   obtain ⟨vs,hk,hr⟩:=j0 (l:=r) h
   refine ⟨_,hk,?_⟩
   rw [List.mapM_cons]
   simp only [Sem.run_bind,ox,hx,asAddr,Sem.run_pure,Result.andThen_ok,hr1 w hc,hr]
  ·exact h.elim
theorem kz {P:Program}{fn:Func}{a:Act}{w:World}{k:Value->Prop} (h:my P a w.heap fn.results.toList fun vs=>match vs with
  | [v]=>k v
  | vs=>k (.tuple vs.toArray)):∃ v,k v∧(results fn a.tmps).run P w=.ok v w:=by
 obtain ⟨vs,hk,hr⟩:=j0 h
 have e:(results fn a.tmps)=(do let vs ← fn.results.mapM (ox a.tmps);pure (if h:vs.size=1 then vs[0] else .tuple vs)):=by
  unfold results
  congr 1
 rw [e,Array.mapM_eq_mapM_toList]
 simp only [Sem.run_bind,Sem.run_map,hr,Result.andThen_ok,Sem.run_pure]
 match vs,hk with
 | [],hk=>exact ⟨_,hk,by simp⟩
 | [v],hk=>exact ⟨_,hk,by simp⟩
 | v :: u :: r,hk=>exact ⟨_,hk,by simp⟩
theorem aW {P:Program} (hP:GoodPg P){f:FuncId}{fn:Func} (hf:P.funcs[f]?=some fn){c:Code} (hc:fn.body=some c){Ls:uC}{args:Array Value}{Q:Value->ae->Prop}{H:ae}{X:Prop}
  (hX:X=ev P Ls c (LD P fn Q) (lB fn args) H) (h:X) (hn:(bi c && bC c)=true:=by kernel_rfl):ac P f args Q H:=by
 rw [Bool.and_eq_true] at hn
 refine ⟨⟨fn,hf,by rw [hc];rfl⟩,fun w hw=>?_⟩
 subst hw
 rw [hX] at h
 have hs:=cC hP (r:=none) (m:=w.heap.size) c _ (lB fn args) [] [] w (.inl rfl) (Nat.le_refl _) .nil h
 refine calls_of_wp hf hc (wp_mono (wpIn_wide.1 hs) ?_)
 rintro e ar w' ⟨hp,a',l',ha,hq,hs,hk,hm,hl⟩
 have hl':=hl hn.2
 subst hl'
 have hd:a'.defers=[]:=hk.2.1 hn.1
 have hdr:ar.defers=[]:=by
  rw [hd] at hm
  generalize ar.defers=ds at hm
  cases hm
  rfl
 have main:my P a' w'.heap fn.results.toList (fun vs=>match vs with
  | [v]=>Q v w'.heap
  | vs=>Q (.tuple vs.toArray) w'.heap)->ar.defers=[]∧∃ v,(results fn ar.tmps).run P w'=.ok v w'∧(∃ v_1,Ending.returned v=.returned v_1∧Q v_1 w'.heap∧bE w w'):=by
  intro hq
  obtain ⟨v,hv,hr⟩:=kz (k:=fun v=>Q v w'.heap) hq
  rw [ha]
  exact ⟨hdr,v,hr,v,rfl,hv,hs⟩
 cases e with
 | normal=>exact main hq
 | ret=>exact main hq
 | panic c=>exact hp.elim
 | outgrown=>exact hp.elim
 | exit id=>exact hq.elim
 | goto l=>exact hq.elim
theorem gD.refl (n:Nat) (H:ae):gD n H H:=⟨rfl,fun _=>.inl rfl⟩
theorem tK {P:Program} (hP:GoodPg P){fn:Func}{mk:Bool}{n:Nat}{tmps:Array Value}{Q:Value->ae->Prop}{w0:World}{k:Nat}{dr da:List Deferred}{l:List Nat}{H:ae} (hm:MixD n H dr da l):∀ (H0:ae) (w:World),w.heap=H->n=w0.heap.size->bE w0 w->gD n H0 H->(mk=false->l=[]∧H0=H)->gb P fn mk n tmps Q da H0 ->
  LeavesInM Fence.wide k P fn tmps (fun e w'=>∃ v,e=.returned v∧Q v w'.heap∧bE w0 w') dr .returning w:=by
 have fin:∀ (H0 H:ae) (w:World),w.heap=H->bE w0 w->gD n H0 H->(mk=false->H0=H)->gb P fn mk n tmps Q [] H0->LeavesInM Fence.wide k P fn tmps (fun e w'=>∃ v,e=.returned v∧Q v w'.heap∧bE w0 w') [] .returning w:=by
  intro H0 H w hw hs hsh hmk h
  subst hw
  have h:my P ⟨tmps,[]⟩ w.heap fn.results.toList (fun vs=>match vs with
   | [v]=>Q v w.heap
   | vs=>Q (.tuple vs.toArray) w.heap):=by
   unfold gb at h
   cases mk with
   | true=>exact h _ hsh
   | false=>rw [hmk rfl] at h;exact h
  obtain ⟨v,hv,hr⟩:=kz (a:=⟨tmps,[]⟩) (k:=fun v=>Q v w.heap) h
  exact ⟨v,hr,v,rfl,hv,hs⟩
 have put:∀ {H:ae}{D:Nat}{ds:List Deferred},H[D]?=some (.deferred (some ds))->D<H.size:=fun h=>(Array.getElem?_eq_some_iff.1 h).1
 induction dr generalizing da l H with
 | nil =>
  intro H0 w hw hn hs hsh hmk h
  cases hm
  exact fin H0 H w hw hs hsh (fun e=>(hmk e).2) h
 | cons d dr ih =>
  intro H0 w hw hn hs hsh hmk h
  subst hw
  cases hm with
  | @mark D _ _ l h1 h2 h3 hm =>
   have hmt:mk=true:=by cases mk with | true=>rfl | false=>exact absurd (hmk rfl).1 (by simp)
   refine ⟨by simp,.inl ⟨_,_,rfl,run_takeDeferred h1,?_⟩⟩
   have hlt:=put h1
   have hother:∀ b,b≠D->(w.heap.setIfInBounds D (Obj.deferred none))[b]?=w.heap[b]?:=fun b hb=>Array.getElem?_setIfInBounds_ne (Ne.symm hb)
   have hsame:(w.heap.setIfInBounds D (Obj.deferred none))[D]?=some (.deferred none):=by simp [hlt]
   refine ih (da:=da) (l:=l) (H:=(w.putObj D (.deferred none)).heap) ?_ H0 (w.putObj D (.deferred none)) rfl hn ?_ ?_ (fun e=>by rw [hmt] at e;cases e) h
   ·have:∀ {dr da:List Deferred}{l:List Nat},D∉l->MixD n w.heap dr da l->MixD n (w.putObj D (.deferred none)).heap dr da l:=by
     intro dr da l hD hm
     induction hm with
     | nil=>exact .nil
     | @mark D' _ _ _ g1 g2 g3 _ ih =>
      have hne:D'≠D:=fun e=>hD (by simp [e])
      exact .mark ((hother D' hne).trans g1) g2 g3 (ih fun h=>hD (by simp [h]))
     | call _ ih=>exact .call (ih hD)
    exact this h3 hm
   ·refine ⟨hs.1,hs.2.1,hs.2.2.1,hs.2.2.2.1,by rw [World.putObj_size];exact hs.2.2.2.2.1,fun b ds hb=>?_⟩
    have hbl:b<w0.heap.size:=(Array.getElem?_eq_some_iff.1 hb).1
    exact (hother b (by omega)).trans (hs.2.2.2.2.2 b ds hb)
   ·refine ⟨by rw [World.putObj_size];exact hsh.1,fun b=>?_⟩
    by_cases hbD:b=D
    ·subst hbD
     rcases hsh.2 b with h4 | ⟨_,_,h4⟩
     ·exact .inr ⟨h2,by rw [←h4];exact h1,hsame⟩
     ·rw [h1] at h4;cases h4
    ·rcases hsh.2 b with h4 | ⟨h4,h5,h6⟩
     ·exact .inl ((hother b hbD).trans h4)
     ·exact .inr ⟨h4,h5,(hother b hbD).trans h6⟩
  | @call _ _ da l hm =>
   unfold gb at h
   split at h
   ·rename_i g cap ht
    have hc:qW P g (d.args++cap) (fun H''=>gb P fn mk n tmps Q da H'') w.heap:=by
     cases mk with
     | true=>exact h _ hsh
     | false=>have:=(hmk rfl).2;subst this;exact h
    obtain ⟨⟨f',hf',hfb⟩,hc⟩:=hc
    refine ⟨by simp,.inr ⟨fun h=>(by cases h),.func g,cap,g,d.args++cap,ht,?_,fun _ _=>trivial,?_⟩⟩
    ·rw [ht];exact gg hP hf' hfb _ _
    ·have hcc:=hc w .returning rfl
     refine CallsDIn.mono (F:=Fence.wide) (n:=k-1) ⟨hcc.1,fun c cs hu _=>hcc.2 c cs hu (room_wide _)⟩ ?_
     rintro e u' w' ⟨rfl,⟨v,rfl⟩,hq,hs'⟩
     exact ih (hm.keep hs'.2.2.2.2) w'.heap w' rfl hn (hs.trans hs') (gD.refl _ _) (fun e=>⟨(hmk e).1,rfl⟩) hq
   ·exact h.elim
theorem tE {P:Program} (hP:GoodPg P){f:FuncId}{fn:Func} (hf:P.funcs[f]?=some fn){c:Code} (hc:fn.body=some c){Ls:uC}{args:Array Value}{Q:Value->ae->Prop}{H:ae}{X:Prop}{mk:Bool}
  (hX:X=ev P Ls c (Ln P fn mk H.size Q) (lB fn args) H) (h:X) (hn:(!mk)=bC c:=by kernel_rfl):ac P f args Q H:=by
 refine ⟨⟨fn,hf,by rw [hc];rfl⟩,fun w hw=>?_⟩
 subst hw
 rw [hX] at h
 have hs:=cC hP (r:=none) (m:=w.heap.size) c _ (lB fn args) [] [] w (.inl rfl) (Nat.le_refl _) .nil h
 refine callsIn_wide (n:=0).1 (callsIn_of_wp_marks hf hc trivial (wpIn_mono hs ?_))
 rintro e ar w' ⟨hp,a',l',ha,hq,hs,hk,hm,hl⟩
 have main:gb P fn mk w.heap.size a'.tmps Q a'.defers w'.heap->LeavesInM Fence.wide 0 P fn ar.tmps (fun e w'=>∃ v,e=.returned v∧Q v w'.heap∧bE w w') ar.defers .returning w':=by
  intro hq
  have:=tK hP (w0:=w) (k:=0) hm w'.heap w' rfl rfl hs (gD.refl _ _) (fun e=>⟨hl (by rw [←hn,e];rfl),rfl⟩) hq
  rw [ha];exact this
 cases e with
 | normal=>exact main hq
 | ret=>exact main hq
 | panic c=>exact hp.elim
 | outgrown=>exact hp.elim
 | exit id=>exact hq.elim
 | goto l=>exact hq.elim
theorem tS {P:Program} (hP:GoodPg P){Ls Ls':uC}{l:Nat}{args:Array Value}{r:Loop}{Q:Value->ae->Prop}{H:ae} (hl:H[l]?=some (.loop r)) (hsz:args.size=r.params.size) (hq:(bY r.assign && bi r.assign && bY r.body && bi r.body)=true)
  (h:ev P Ls r.assign (xg l fun a1 H1=>ev P Ls' r.body (wB l Q) a1 H1) ⟨(r.params.zip args).foldl (fun tmps (t,a)=>tmps.setIfInBounds t a) r.tmps,[]⟩ H):fA P l args Q H:=by
 intro w hw
 subst hw
 simp only [Bool.and_eq_true] at hq
 obtain ⟨⟨⟨q1,q2⟩,q3⟩,q4⟩:=hq
 refine ⟨r.fn,_,r.assign,r.body,run_yield hl hsz,roundIn_of_wpIn trivial ?_⟩
 have h1:=cC hP (r:=some l) (m:=0) (Ls:=Ls) r.assign _ _ [] [] w (.inr ⟨q1,q2⟩) (Nat.zero_le _) .nil h
 refine wpIn_mono h1 ?_
 rintro e ar w1 ⟨hp,a1,l1,ha,hq1,hs,hk,hm,hl1⟩
 cases e with
 | normal =>
  obtain ⟨r1,hr1,hst,hb⟩:=hq1
  have hk2:bM w1.heap (w1.heap.setIfInBounds l (.loop { r1 with state:=.busy })):=bM.setObj hr1 (by simp)
  have hs2:bE w (w1.putObj l (.loop { r1 with state:=.busy })):=hs.trans (bE.heap (w:=w1) hk2)
  refine ⟨w1.putObj l (.loop { r1 with state:=.busy }),run_beginRound hr1 hst,?_⟩
  rw [ha]
  refine wpIn_mono (cC hP (r:=some l) (m:=0) r.body _ a1 ar.defers l1 (w1.putObj l (.loop { r1 with state:=.busy })) (.inr ⟨q3,q4⟩) (Nat.zero_le _) (hm.keep hk2) hb) ?_
  rintro e ar' w3 ⟨hp',a2,l2,ha2,hq2,hs3,hk3,hm3,hl3⟩
  have fin:∀ (r2:Loop) (o:Loop),w3.heap[l]?=some (.loop r2)->bE w (w3.putObj l (.loop o)):=fun r2 o h2=>(hs2.trans hs3).trans (bE.heap (w:=w3) (bM.setObj h2 (by simp)))
  cases e with
  | normal =>
   obtain ⟨r2,h2,hQ⟩:=hq2
   exact ⟨_,_,run_endRound none h2,_,rfl,hQ,fin r2 _ h2⟩
  | ret =>
   obtain ⟨r2,h2,hQ⟩:=hq2
   exact ⟨_,_,run_endRound (some .ret) h2,_,rfl,hQ,fin r2 _ h2⟩
  | exit id =>
   obtain ⟨r2,h2,hQ⟩:=hq2
   exact ⟨_,_,run_endRound (some (.exit id)) h2,_,rfl,hQ,fin r2 _ h2⟩
  | goto t=>exact hq2.elim
  | panic c=>exact hp'.elim
  | outgrown=>exact hp'.elim
 | ret=>exact hq1.elim
 | exit id=>exact hq1.elim
 | goto t=>exact hq1.elim
 | panic c=>exact hp.elim
 | outgrown=>exact hp.elim
theorem rq {P:Program} (hP:GoodPg P){Ls Ls':uC}{l:Nat}{args:Array Value}{r:Loop}{Q:Value->ae->Prop}{H:ae}{X:Prop} (hl:H[l]?=some (.loop r)) (hsz:args.size=r.params.size) (hq:(bY r.assign && bi r.assign && bY r.body && bi r.body)=true)
  (hX:X=ev P Ls r.assign (xg l fun a1 H1=>ev P Ls' r.body (wB l Q) a1 H1) ⟨(r.params.zip args).foldl (fun tmps (t,a)=>tmps.setIfInBounds t a) r.tmps,[]⟩ H) (h:X):fA P l args Q H :=
 tS hP hl hsz hq (by rw [hX] at h;exact h)
end Kw
namespace Go.Proofs.YtgjfejoohojokaaGreatDoor
open Kw
abbrev A0 (b:Nat):Addr:=⟨b,0,none⟩
abbrev iV (n:Int):Value:=.int .i64 n
abbrev wW (n:Int):Int:=IntKind.wrap .i64 n
abbrev pV (p:Option Addr):Value:=.pointer p
abbrev sV (s:ByteArray):Value:=.string s
abbrev lV (a:Option Addr) (l c:Nat):Value:=.slice a l c
abbrev QT:=Value->ae->Prop
abbrev IT:=List Value->ae->Prop
abbrev MT:=List Value->ae->Nat
abbrev shH (a:ae) (f:ae->Prop):Prop:=f a
noncomputable abbrev PP:=Tryz.prog
theorem good:GoodPg PP:=⟨by kernel_rfl,by kernel_rfl⟩
abbrev cS (n : FuncId) (a : Array Value) (Q : Value -> ae -> Prop) (H : ae) : Prop := ac PP n a Q H
theorem okF {f : FuncId} {fn : Func} (hf : PP.funcs[f]? = some fn) {c : Code} (hc : fn.body = some c) {args : Array Value} {Q : Value -> ae -> Prop} {H : ae} {X : Prop} (h : X) (hX : X = ev PP (fun _ => none) c (LD PP fn Q) (lB fn args) H := by kernel_rfl) (hn : (bi c && bC c) = true := by kernel_rfl) : ac PP f args Q H := aW good hf hc hX h hn
abbrev ax:Nat:=0
abbrev dQ:Nat:=3
variable {Q:QT}{H:ae}
abbrev sK:Nat:=30
def LS (p1:Option Addr) (n2:Int) (s3:ByteArray) (n4:Int) (a5:Option Addr) (l5:Nat) (c5:Nat) (Q:QT) (H:ae):Prop :=
 ac PP 7 #[pV p1] (fun v6 H1=>∃ p7,v6=pV p7∧cond (Option.isNone p7) (Q (.tuple #[iV 0,iV 2]) H1) (cS 85 #[iV n2] (fun v8 H2=>∃ r9:Option Nat,v8=.map r9∧aK PP (Instr.lookup 135 (.map r9) (sV s3) true) (fun v10 H3=>∃ n11:Int,shH (av (H3.push (.cells #[iV 0,.nilFunc] 133)) (A0 H3.size) (iV n11)) fun C1=>shH (av C1 ((A0 H3.size).add 1) (.nilFunc)) fun C3=>shH (C3.push (.cells #[pV none,iV 0,lV none 0 0] 138)) fun C6=>shH (av (av C6 (A0 C3.size) (pV p1)) ((A0 C3.size).add 1) (iV n4)) fun C5=>((∃ f12,∃ g12:Array Value,∃ h12:Array Value,shH (av C1 ((A0 H3.size).add 1) (.func (.func f12) g12 h12)) fun C2=>shH (C2.push (.cells #[pV none,iV 0,lV none 0 0] 138)) fun C7=>shH (av (av C7 (A0 C2.size) (pV p1)) ((A0 C2.size).add 1) (iV n4)) fun C4=>∃ b13,v10=.tuple #[.agg #[iV n11,.func (.func f12) g12 h12],.bool b13]∧Wr (H3.push (.cells #[iV 0,.nilFunc] 133)) (A0 H3.size)∧Wr C1 ((A0 H3.size).add 1)∧cond (!b13) (Q (.tuple #[iV 0,iV 1]) C2) (((∃ f14,∃ g14:Array Value,∃ h14:Array Value,aa C2 ((A0 H3.size).add 1)=some (.func (.func f14) g14 h14)∧∃ n15,aa C2 (A0 H3.size)=some (iV n15)∧cond ((l5:Int) != n15) (Q (.tuple #[iV 0,iV 1]) C2) (Wr C7 (A0 C2.size)∧Wr (av C7 (A0 C2.size) (pV p1)) ((A0 C2.size).add 1)∧Wr C4 ((A0 C2.size).add 2)∧aK PP (Builtin.append_ #[30,30] 30 #[lV (some (⟨(av C4 ((A0 C2.size).add 2) (lV a5 l5 c5)).size,0,none⟩:Addr)) 1 1,lV a5 l5 c5]) (fun v16 H4=>∃ a17 l17 c17,v16=lV a17 l17 c17∧∃(I18:IT) (μ18:MT),I18 [iV 0] H4∧∀ w19 H5,I18 w19 H5->∀ _g:Nat->Value,∃ n20,w19=[iV n20]∧cond (decide (n20<(l17:Int))) (((0:Int)<=n20∧n20<(l17:Int))∧∃ q21,a17=some q21∧∃ n22,aa H5 (q21.add (Int.toNat n20*1))=some (iV n22)∧∃ p23,aa H5 (A0 C2.size)=some (pV p23)∧∃ n24,aa H5 ((A0 C2.size).add 1)=some (iV n24)∧∃ a25 l25 c25,aa H5 ((A0 C2.size).add 2)=some (lV a25 l25 c25)∧cS 86 #[.agg #[pV p23,iV n24,lV a25 l25 c25],iV n22] (fun v26 H6=>∃ n27,v26=iV n27∧cond (n27 == 0) (Q (.tuple #[iV 0,iV 1]) H6) (I18 [iV (wW (n20+1))] H6∧μ18 [iV (wW (n20+1))] H6<μ18 w19 H5)) H5) (∃ p28,aa H5 (A0 C2.size)=some (pV p28)∧∃ n29,aa H5 ((A0 C2.size).add 1)=some (iV n29)∧∃ a30 l30 c30,aa H5 ((A0 C2.size).add 2)=some (lV a30 l30 c30)∧cS 87 #[.agg #[pV p28,iV n29,lV a30 l30 c30],iV n4,iV n2] (fun v31 H7=>∃ b32,v31=.bool b32∧cond (!b32) (Q (.tuple #[iV 0,iV 170]) H7) (∃ p33,aa H7 (A0 C2.size)=some (pV p33)∧∃ n34,aa H7 ((A0 C2.size).add 1)=some (iV n34)∧∃ a35 l35 c35,aa H7 ((A0 C2.size).add 2)=some (lV a35 l35 c35)∧cS 88 #[.agg #[pV p33,iV n34,lV a35 l35 c35],iV n2] (fun v36 H8=>∃ b37,v36=.bool b37∧cond (!b37) (Q (.tuple #[iV 0,iV 170]) H8) (((∃ f38,∃ g38:Array Value,∃ h38:Array Value,aa H8 ((A0 H3.size).add 1)=some (.func (.func f38) g38 h38)∧∃ p39,aa H8 (A0 C2.size)=some (pV p39)∧∃ n40,aa H8 ((A0 C2.size).add 1)=some (iV n40)∧∃ a41 l41 c41,aa H8 ((A0 C2.size).add 2)=some (lV a41 l41 c41)∧ac PP f38 ((g38++#[.agg #[pV p39,iV n40,lV a41 l41 c41]])++h38) (fun v42 H9=>∃ n43 n44,v42=.tuple #[iV n43,iV n44]∧Q (.tuple #[iV n43,iV n44]) H9) H8)∨(aa H8 ((A0 H3.size).add 1)=some (.nilFunc)∧∃ p45,aa H8 (A0 C2.size)=some (pV p45)∧∃ n46,aa H8 ((A0 C2.size).add 1)=some (iV n46)∧∃ a47 l47 c47,aa H8 ((A0 C2.size).add 2)=some (lV a47 l47 c47)∧False)))) H7)) H5)) ((av C4 ((A0 C2.size).add 2) (lV a5 l5 c5)).push (.cells #[iV n4] 26))))∨(aa C2 ((A0 H3.size).add 1)=some (.nilFunc)∧Q (.tuple #[iV 0,iV 1]) C2))))∨(∃ b48,v10=.tuple #[.agg #[iV n11,.nilFunc],.bool b48]∧Wr (H3.push (.cells #[iV 0,.nilFunc] 133)) (A0 H3.size)∧Wr C1 ((A0 H3.size).add 1)∧cond (!b48) (Q (.tuple #[iV 0,iV 1]) C3) (((∃ f49,∃ g49:Array Value,∃ h49:Array Value,aa C3 ((A0 H3.size).add 1)=some (.func (.func f49) g49 h49)∧∃ n50,aa C3 (A0 H3.size)=some (iV n50)∧cond ((l5:Int) != n50) (Q (.tuple #[iV 0,iV 1]) C3) (Wr C6 (A0 C3.size)∧Wr (av C6 (A0 C3.size) (pV p1)) ((A0 C3.size).add 1)∧Wr C5 ((A0 C3.size).add 2)∧aK PP (Builtin.append_ #[30,30] 30 #[lV (some (⟨(av C5 ((A0 C3.size).add 2) (lV a5 l5 c5)).size,0,none⟩:Addr)) 1 1,lV a5 l5 c5]) (fun v51 H10=>∃ a52 l52 c52,v51=lV a52 l52 c52∧∃(I53:IT) (μ53:MT),I53 [iV 0] H10∧∀ w54 H11,I53 w54 H11->∀ _g:Nat->Value,∃ n55,w54=[iV n55]∧cond (decide (n55<(l52:Int))) (((0:Int)<=n55∧n55<(l52:Int))∧∃ q56,a52=some q56∧∃ n57,aa H11 (q56.add (Int.toNat n55*1))=some (iV n57)∧∃ p58,aa H11 (A0 C3.size)=some (pV p58)∧∃ n59,aa H11 ((A0 C3.size).add 1)=some (iV n59)∧∃ a60 l60 c60,aa H11 ((A0 C3.size).add 2)=some (lV a60 l60 c60)∧cS 86 #[.agg #[pV p58,iV n59,lV a60 l60 c60],iV n57] (fun v61 H12=>∃ n62,v61=iV n62∧cond (n62 == 0) (Q (.tuple #[iV 0,iV 1]) H12) (I53 [iV (wW (n55+1))] H12∧μ53 [iV (wW (n55+1))] H12<μ53 w54 H11)) H11) (∃ p63,aa H11 (A0 C3.size)=some (pV p63)∧∃ n64,aa H11 ((A0 C3.size).add 1)=some (iV n64)∧∃ a65 l65 c65,aa H11 ((A0 C3.size).add 2)=some (lV a65 l65 c65)∧cS 87 #[.agg #[pV p63,iV n64,lV a65 l65 c65],iV n4,iV n2] (fun v66 H13=>∃ b67,v66=.bool b67∧cond (!b67) (Q (.tuple #[iV 0,iV 170]) H13) (∃ p68,aa H13 (A0 C3.size)=some (pV p68)∧∃ n69,aa H13 ((A0 C3.size).add 1)=some (iV n69)∧∃ a70 l70 c70,aa H13 ((A0 C3.size).add 2)=some (lV a70 l70 c70)∧cS 88 #[.agg #[pV p68,iV n69,lV a70 l70 c70],iV n2] (fun v71 H14=>∃ b72,v71=.bool b72∧cond (!b72) (Q (.tuple #[iV 0,iV 170]) H14) (((∃ f73,∃ g73:Array Value,∃ h73:Array Value,aa H14 ((A0 H3.size).add 1)=some (.func (.func f73) g73 h73)∧∃ p74,aa H14 (A0 C3.size)=some (pV p74)∧∃ n75,aa H14 ((A0 C3.size).add 1)=some (iV n75)∧∃ a76 l76 c76,aa H14 ((A0 C3.size).add 2)=some (lV a76 l76 c76)∧ac PP f73 ((g73++#[.agg #[pV p74,iV n75,lV a76 l76 c76]])++h73) (fun v77 H15=>∃ n78 n79,v77=.tuple #[iV n78,iV n79]∧Q (.tuple #[iV n78,iV n79]) H15) H14)∨(aa H14 ((A0 H3.size).add 1)=some (.nilFunc)∧∃ p80,aa H14 (A0 C3.size)=some (pV p80)∧∃ n81,aa H14 ((A0 C3.size).add 1)=some (iV n81)∧∃ a82 l82 c82,aa H14 ((A0 C3.size).add 2)=some (lV a82 l82 c82)∧False)))) H13)) H11)) ((av C5 ((A0 C3.size).add 2) (lV a5 l5 c5)).push (.cells #[iV n4] 26))))∨(aa C3 ((A0 H3.size).add 1)=some (.nilFunc)∧Q (.tuple #[iV 0,iV 1]) C3)))))) H2) H1)) H
theorem D5 {p1:Option Addr}{n2:Int}{s3:ByteArray}{n4:Int}{a5:Option Addr}{l5:Nat}{c5:Nat} (h:LS p1 n2 s3 n4 a5 l5 c5 Q H):ac PP 30 #[.pointer p1,.int .i64 n2,.string s3,.int .i64 n4,.slice a5 l5 c5] Q H :=
 aW good Tryz.func30 rfl (Ls:=fun | 8=>some [(50,3)] | _=>none) (by kernel_rfl) h
abbrev Iq:Nat:=85
def L7 (n1:Int) (Q:QT) (H:ae):Prop :=
 cond (n1 == 4) (aK PP (Instr.mapUpdate 135 (.map (some H.size)) (sV (⟨#[61,61]⟩:ByteArray)) (.agg #[iV 1,.func (.func 171) #[] #[]])) (fun _ H1=>aK PP (Instr.mapUpdate 135 (.map (some H.size)) (sV (⟨#[61]⟩:ByteArray)) (.agg #[iV 1,.func (.func 171) #[] #[]])) (fun _ H2=>aK PP (Instr.mapUpdate 135 (.map (some H.size)) (sV (⟨#[126,126]⟩:ByteArray)) (.agg #[iV 1,.func (.func 172) #[] #[]])) (fun _ H3=>aK PP (Instr.mapUpdate 135 (.map (some H.size)) (sV (⟨#[99,108,97,115,115]⟩:ByteArray)) (.agg #[iV 0,.func (.func 173) #[] #[]])) (fun _ H4=>aK PP (Instr.mapUpdate 135 (.map (some H.size)) (sV (⟨#[105,115,78,105,108]⟩:ByteArray)) (.agg #[iV 0,.func (.func 174) #[] #[]])) (fun _ H5=>aK PP (Instr.mapUpdate 135 (.map (some H.size)) (sV (⟨#[110,111,116,78,105,108]⟩:ByteArray)) (.agg #[iV 0,.func (.func 175) #[] #[]])) (fun _ H6=>aK PP (Instr.mapUpdate 135 (.map (some H.size)) (sV (⟨#[121,111,117,114,115,101,108,102]⟩:ByteArray)) (.agg #[iV 0,.func (.func 176) #[] #[]])) (fun _ H7=>aK PP (Instr.mapUpdate 135 (.map (some H.size)) (sV (⟨#[105,115,75,105,110,100,79,102,58]⟩:ByteArray)) (.agg #[iV 1,.func (.func 177) #[] #[]])) (fun _ H8=>aK PP (Instr.mapUpdate 135 (.map (some H.size)) (sV (⟨#[105,110,115,116,86,97,114,83,105,122,101]⟩:ByteArray)) (.agg #[iV 0,.func (.func 178) #[] #[]])) (fun _ H9=>aK PP (Instr.mapUpdate 135 (.map (some H.size)) (sV (⟨#[105,110,115,116,86,97,114,65,116,58]⟩:ByteArray)) (.agg #[iV 1,.func (.func 179) #[] #[]])) (fun _ H10=>aK PP (Instr.mapUpdate 135 (.map (some H.size)) (sV (⟨#[105,110,115,116,86,97,114,65,116,58,112,117,116,58]⟩:ByteArray)) (.agg #[iV 2,.func (.func 179) #[] #[]])) (fun _ H11=>aK PP (Instr.mapUpdate 135 (.map (some H.size)) (sV (⟨#[99,111,112,121]⟩:ByteArray)) (.agg #[iV 0,.func (.func 180) #[] #[]])) (fun _ H12=>Q (.map (some H.size)) H12) H11) H10) H9) H8) H7) H6) H5) H4) H3) H2) H1) (H.push (.map #[] 0))) (∃ J2:IT,(cond (n1 == 7) (J2 [.bool true] H) (J2 [.bool (n1 == 6)] H))∧∀ w3 H13,J2 w3 H13->∀ _g:Nat->Value,∃ b4,w3=[.bool b4]∧cond b4 (cS 181 #[] (fun v5 H14=>∃ r6:Option Nat,v5=.map r6∧Q (.map r6) H14) H13) (cond (n1 == 8) (cS 182 #[.func (.func 183) #[] #[]] (fun v7 H15=>∃ f8,∃ g8:Array Value,∃ h8:Array Value,v7=.func (.func f8) g8 h8∧aK PP (Instr.mapUpdate 135 (.map (some H13.size)) (sV (⟨#[43]⟩:ByteArray)) (.agg #[iV 1,.func (.func f8) g8 h8])) (fun _ H16=>cS 182 #[.func (.func 184) #[] #[]] (fun v9 H17=>∃ f10,∃ g10:Array Value,∃ h10:Array Value,v9=.func (.func f10) g10 h10∧aK PP (Instr.mapUpdate 135 (.map (some H13.size)) (sV (⟨#[45]⟩:ByteArray)) (.agg #[iV 1,.func (.func f10) g10 h10])) (fun _ H18=>cS 182 #[.func (.func 185) #[] #[]] (fun v11 H19=>∃ f12,∃ g12:Array Value,∃ h12:Array Value,v11=.func (.func f12) g12 h12∧aK PP (Instr.mapUpdate 135 (.map (some H13.size)) (sV (⟨#[42]⟩:ByteArray)) (.agg #[iV 1,.func (.func f12) g12 h12])) (fun _ H20=>cS 182 #[.func (.func 186) #[] #[]] (fun v13 H21=>∃ f14,∃ g14:Array Value,∃ h14:Array Value,v13=.func (.func f14) g14 h14∧aK PP (Instr.mapUpdate 135 (.map (some H13.size)) (sV (⟨#[47,47]⟩:ByteArray)) (.agg #[iV 1,.func (.func f14) g14 h14])) (fun _ H22=>cS 182 #[.func (.func 187) #[] #[]] (fun v15 H23=>∃ f16,∃ g16:Array Value,∃ h16:Array Value,v15=.func (.func f16) g16 h16∧aK PP (Instr.mapUpdate 135 (.map (some H13.size)) (sV (⟨#[92,92]⟩:ByteArray)) (.agg #[iV 1,.func (.func f16) g16 h16])) (fun _ H24=>cS 182 #[.func (.func 188) #[] #[]] (fun v17 H25=>∃ f18,∃ g18:Array Value,∃ h18:Array Value,v17=.func (.func f18) g18 h18∧aK PP (Instr.mapUpdate 135 (.map (some H13.size)) (sV (⟨#[98,105,116,65,110,100,58]⟩:ByteArray)) (.agg #[iV 1,.func (.func f18) g18 h18])) (fun _ H26=>cS 182 #[.func (.func 189) #[] #[]] (fun v19 H27=>∃ f20,∃ g20:Array Value,∃ h20:Array Value,v19=.func (.func f20) g20 h20∧aK PP (Instr.mapUpdate 135 (.map (some H13.size)) (sV (⟨#[98,105,116,79,114,58]⟩:ByteArray)) (.agg #[iV 1,.func (.func f20) g20 h20])) (fun _ H28=>cS 182 #[.func (.func 190) #[] #[]] (fun v21 H29=>∃ f22,∃ g22:Array Value,∃ h22:Array Value,v21=.func (.func f22) g22 h22∧aK PP (Instr.mapUpdate 135 (.map (some H13.size)) (sV (⟨#[98,105,116,88,111,114,58]⟩:ByteArray)) (.agg #[iV 1,.func (.func f22) g22 h22])) (fun _ H30=>cS 182 #[.func (.func 191) #[] #[]] (fun v23 H31=>∃ f24,∃ g24:Array Value,∃ h24:Array Value,v23=.func (.func f24) g24 h24∧aK PP (Instr.mapUpdate 135 (.map (some H13.size)) (sV (⟨#[98,105,116,83,104,105,102,116,58]⟩:ByteArray)) (.agg #[iV 1,.func (.func f24) g24 h24])) (fun _ H32=>cS 192 #[.func (.func 193) #[] #[]] (fun v25 H33=>∃ f26,∃ g26:Array Value,∃ h26:Array Value,v25=.func (.func f26) g26 h26∧aK PP (Instr.mapUpdate 135 (.map (some H13.size)) (sV (⟨#[60]⟩:ByteArray)) (.agg #[iV 1,.func (.func f26) g26 h26])) (fun _ H34=>cS 192 #[.func (.func 194) #[] #[]] (fun v27 H35=>∃ f28,∃ g28:Array Value,∃ h28:Array Value,v27=.func (.func f28) g28 h28∧aK PP (Instr.mapUpdate 135 (.map (some H13.size)) (sV (⟨#[62]⟩:ByteArray)) (.agg #[iV 1,.func (.func f28) g28 h28])) (fun _ H36=>cS 192 #[.func (.func 195) #[] #[]] (fun v29 H37=>∃ f30,∃ g30:Array Value,∃ h30:Array Value,v29=.func (.func f30) g30 h30∧aK PP (Instr.mapUpdate 135 (.map (some H13.size)) (sV (⟨#[60,61]⟩:ByteArray)) (.agg #[iV 1,.func (.func f30) g30 h30])) (fun _ H38=>cS 192 #[.func (.func 196) #[] #[]] (fun v31 H39=>∃ f32,∃ g32:Array Value,∃ h32:Array Value,v31=.func (.func f32) g32 h32∧aK PP (Instr.mapUpdate 135 (.map (some H13.size)) (sV (⟨#[62,61]⟩:ByteArray)) (.agg #[iV 1,.func (.func f32) g32 h32])) (fun _ H40=>cS 182 #[.func (.func 197) #[] #[]] (fun v33 H41=>∃ f34,∃ g34:Array Value,∃ h34:Array Value,v33=.func (.func f34) g34 h34∧aK PP (Instr.mapUpdate 135 (.map (some H13.size)) (sV (⟨#[109,105,110,58]⟩:ByteArray)) (.agg #[iV 1,.func (.func f34) g34 h34])) (fun _ H42=>cS 182 #[.func (.func 198) #[] #[]] (fun v35 H43=>∃ f36,∃ g36:Array Value,∃ h36:Array Value,v35=.func (.func f36) g36 h36∧aK PP (Instr.mapUpdate 135 (.map (some H13.size)) (sV (⟨#[109,97,120,58]⟩:ByteArray)) (.agg #[iV 1,.func (.func f36) g36 h36])) (fun _ H44=>aK PP (Instr.mapUpdate 135 (.map (some H13.size)) (sV (⟨#[61]⟩:ByteArray)) (.agg #[iV 1,.func (.func 171) #[] #[]])) (fun _ H45=>aK PP (Instr.mapUpdate 135 (.map (some H13.size)) (sV (⟨#[126,61]⟩:ByteArray)) (.agg #[iV 1,.func (.func 172) #[] #[]])) (fun _ H46=>aK PP (Instr.mapUpdate 135 (.map (some H13.size)) (sV (⟨#[110,101,103,97,116,101,100]⟩:ByteArray)) (.agg #[iV 0,.func (.func 199) #[] #[]])) (fun _ H47=>aK PP (Instr.mapUpdate 135 (.map (some H13.size)) (sV (⟨#[97,98,115]⟩:ByteArray)) (.agg #[iV 0,.func (.func 200) #[] #[]])) (fun _ H48=>aK PP (Instr.mapUpdate 135 (.map (some H13.size)) (sV (⟨#[101,118,101,110]⟩:ByteArray)) (.agg #[iV 0,.func (.func 201) #[] #[]])) (fun _ H49=>aK PP (Instr.mapUpdate 135 (.map (some H13.size)) (sV (⟨#[111,100,100]⟩:ByteArray)) (.agg #[iV 0,.func (.func 202) #[] #[]])) (fun _ H50=>aK PP (Instr.mapUpdate 135 (.map (some H13.size)) (sV (⟨#[112,114,105,110,116,83,116,114,105,110,103]⟩:ByteArray)) (.agg #[iV 0,.func (.func 203) #[] #[]])) (fun _ H51=>Q (.map (some H13.size)) H51) H50) H49) H48) H47) H46) H45) H44) H43) H42) H41) H40) H39) H38) H37) H36) H35) H34) H33) H32) H31) H30) H29) H28) H27) H26) H25) H24) H23) H22) H21) H20) H19) H18) H17) H16) H15) (H13.push (.map #[] 0))) (cond (n1 == 9) (aK PP (Instr.mapUpdate 135 (.map (some H13.size)) (sV (⟨#[115,105,122,101]⟩:ByteArray)) (.agg #[iV 0,.func (.func 204) #[] #[]])) (fun _ H52=>aK PP (Instr.mapUpdate 135 (.map (some H13.size)) (sV (⟨#[97,115,83,116,114,105,110,103]⟩:ByteArray)) (.agg #[iV 0,.func (.func 205) #[] #[]])) (fun _ H53=>aK PP (Instr.mapUpdate 135 (.map (some H13.size)) (sV (⟨#[60]⟩:ByteArray)) (.agg #[iV 1,.func (.func 206) #[] #[]])) (fun _ H54=>Q (.map (some H13.size)) H54) H53) H52) (H13.push (.map #[] 0))) (cond (n1 == 10) (aK PP (Instr.mapUpdate 135 (.map (some H13.size)) (sV (⟨#[115,105,122,101]⟩:ByteArray)) (.agg #[iV 0,.func (.func 207) #[] #[]])) (fun _ H55=>aK PP (Instr.mapUpdate 135 (.map (some H13.size)) (sV (⟨#[105,115,69,109,112,116,121]⟩:ByteArray)) (.agg #[iV 0,.func (.func 208) #[] #[]])) (fun _ H56=>aK PP (Instr.mapUpdate 135 (.map (some H13.size)) (sV (⟨#[97,116,58]⟩:ByteArray)) (.agg #[iV 1,.func (.func 209) #[] #[]])) (fun _ H57=>aK PP (Instr.mapUpdate 135 (.map (some H13.size)) (sV (⟨#[97,116,58,112,117,116,58]⟩:ByteArray)) (.agg #[iV 2,.func (.func 210) #[] #[]])) (fun _ H58=>aK PP (Instr.mapUpdate 135 (.map (some H13.size)) (sV (⟨#[44]⟩:ByteArray)) (.agg #[iV 1,.func (.func 211) #[] #[]])) (fun _ H59=>aK PP (Instr.mapUpdate 135 (.map (some H13.size)) (sV (⟨#[61]⟩:ByteArray)) (.agg #[iV 1,.func (.func 212) #[] #[]])) (fun _ H60=>aK PP (Instr.mapUpdate 135 (.map (some H13.size)) (sV (⟨#[60]⟩:ByteArray)) (.agg #[iV 1,.func (.func 213) #[] #[]])) (fun _ H61=>aK PP (Instr.mapUpdate 135 (.map (some H13.size)) (sV (⟨#[97,115,83,121,109,98,111,108]⟩:ByteArray)) (.agg #[iV 0,.func (.func 214) #[] #[]])) (fun _ H62=>Q (.map (some H13.size)) H62) H61) H60) H59) H58) H57) H56) H55) (H13.push (.map #[] 0))) (cond (n1 == 11) (aK PP (Instr.mapUpdate 135 (.map (some H13.size)) (sV (⟨#[115,105,122,101]⟩:ByteArray)) (.agg #[iV 0,.func (.func 207) #[] #[]])) (fun _ H63=>aK PP (Instr.mapUpdate 135 (.map (some H13.size)) (sV (⟨#[105,115,69,109,112,116,121]⟩:ByteArray)) (.agg #[iV 0,.func (.func 208) #[] #[]])) (fun _ H64=>aK PP (Instr.mapUpdate 135 (.map (some H13.size)) (sV (⟨#[97,116,58]⟩:ByteArray)) (.agg #[iV 1,.func (.func 215) #[] #[]])) (fun _ H65=>aK PP (Instr.mapUpdate 135 (.map (some H13.size)) (sV (⟨#[97,116,58,112,117,116,58]⟩:ByteArray)) (.agg #[iV 2,.func (.func 215) #[] #[]])) (fun _ H66=>Q (.map (some H13.size)) H66) H65) H64) H63) (H13.push (.map #[] 0))) (cond (n1 == 12) (aK PP (Instr.mapUpdate 135 (.map (some H13.size)) (sV (⟨#[110,101,119]⟩:ByteArray)) (.agg #[iV 0,.func (.func 216) #[] #[]])) (fun _ H67=>aK PP (Instr.mapUpdate 135 (.map (some H13.size)) (sV (⟨#[110,101,119,58]⟩:ByteArray)) (.agg #[iV 1,.func (.func 217) #[] #[]])) (fun _ H68=>cS 218 #[iV 0] (fun v37 H69=>∃ f38,∃ g38:Array Value,∃ h38:Array Value,v37=.func (.func f38) g38 h38∧aK PP (Instr.mapUpdate 135 (.map (some H13.size)) (sV (⟨#[110,97,109,101]⟩:ByteArray)) (.agg #[iV 0,.func (.func f38) g38 h38])) (fun _ H70=>cS 218 #[iV 1] (fun v39 H71=>∃ f40,∃ g40:Array Value,∃ h40:Array Value,v39=.func (.func f40) g40 h40∧aK PP (Instr.mapUpdate 135 (.map (some H13.size)) (sV (⟨#[115,117,112,101,114,99,108,97,115,115]⟩:ByteArray)) (.agg #[iV 0,.func (.func f40) g40 h40])) (fun _ H72=>Q (.map (some H13.size)) H72) H71) H70) H69) H68) H67) (H13.push (.map #[] 0))) (cond (n1 == 14) (cS 219 #[] (fun v41 H73=>∃ r42:Option Nat,v41=.map r42∧Q (.map r42) H73) H13) (cond (n1 == 17) (cS 218 #[iV 0] (fun v43 H74=>∃ f44,∃ g44:Array Value,∃ h44:Array Value,v43=.func (.func f44) g44 h44∧aK PP (Instr.mapUpdate 135 (.map (some H13.size)) (sV (⟨#[115,101,108,101,99,116,111,114]⟩:ByteArray)) (.agg #[iV 0,.func (.func f44) g44 h44])) (fun _ H75=>cS 218 #[iV 1] (fun v45 H76=>∃ f46,∃ g46:Array Value,∃ h46:Array Value,v45=.func (.func f46) g46 h46∧aK PP (Instr.mapUpdate 135 (.map (some H13.size)) (sV (⟨#[97,114,103,117,109,101,110,116,115]⟩:ByteArray)) (.agg #[iV 0,.func (.func f46) g46 h46])) (fun _ H77=>Q (.map (some H13.size)) H77) H76) H75) H74) (H13.push (.map #[] 0))) (Q (.map none) H13)))))))))
theorem Eg {n1:Int} (h:L7 n1 Q H):ac PP 85 #[.int .i64 n1] Q H :=
 aW good Tryz.func85 rfl (Ls:=fun | 1006=>some [(20,4)] | _=>none) (by kernel_rfl) h
abbrev KO:Nat:=86
def LJ (p1:Option Addr) (n2:Int) (a3:Option Addr) (l3:Nat) (c3:Nat) (n4:Int) (Q:QT) (H:ae):Prop :=
 ∃ p5,aa (H.push (.cells #[pV p1,iV n2,lV a3 l3 c3] 138)) (A0 H.size)=some (pV p5)∧cS 220 #[pV p5,iV n4] (fun v6 H1=>∃ n7 n8,v6=.tuple #[iV n7,iV n8]∧cond (n8 != 0) (Q (iV 0) H1) (Q (iV n7) H1)) (H.push (.cells #[pV p1,iV n2,lV a3 l3 c3] 138))
theorem BD {p1:Option Addr}{n2:Int}{a3:Option Addr}{l3:Nat}{c3:Nat}{n4:Int} (h:LJ p1 n2 a3 l3 c3 n4 Q H):ac PP 86 #[.agg #[.pointer p1,.int .i64 n2,.slice a3 l3 c3],.int .i64 n4] Q H :=
 okF Tryz.func86 rfl h
abbrev A4:Nat:=87
def LL (p1:Option Addr) (n2:Int) (a3:Option Addr) (l3:Nat) (c3:Nat) (n4:Int) (n5:Int) (Q:QT) (H:ae):Prop :=
 shH (H.push (.cells #[pV p1,iV n2,lV a3 l3 c3] 138)) fun C1=>∃ p6,aa C1 (A0 H.size)=some (pV p6)∧∃ n7,aa C1 ((A0 H.size).add 1)=some (iV n7)∧∃ a8 l8 c8,aa C1 ((A0 H.size).add 2)=some (lV a8 l8 c8)∧cS 86 #[.agg #[pV p6,iV n7,lV a8 l8 c8],iV n4] (fun v9 H1=>∃ n10,v9=iV n10∧∃(I11:IT) (μ11:MT),I11 [iV n10] H1∧∀ w12 H2,I11 w12 H2->∀ _g:Nat->Value,∃ n13,w12=[iV n13]∧cond (n13 != 0) (cond (n13 == n5) (Q (.bool true) H2) (∃ p14,aa H2 (A0 H.size)=some (pV p14)∧cS 221 #[pV p14,iV n13] (fun v15 H3=>∃ n16 n17,v15=.tuple #[iV n16,iV n17]∧cond (n17 != 0) (Q (.bool false) H3) (I11 [iV n16] H3∧μ11 [iV n16] H3<μ11 w12 H2)) H2)) (Q (.bool false) H2)) C1
theorem CW {p1:Option Addr}{n2:Int}{a3:Option Addr}{l3:Nat}{c3:Nat}{n4:Int}{n5:Int} (h:LL p1 n2 a3 l3 c3 n4 n5 Q H):ac PP 87 #[.agg #[.pointer p1,.int .i64 n2,.slice a3 l3 c3],.int .i64 n4,.int .i64 n5] Q H :=
 aW good Tryz.func87 rfl (Ls:=fun | 2=>some [(7,3)] | _=>none) (by kernel_rfl) h
abbrev IM:Nat:=88
def LW (p1:Option Addr) (n2:Int) (a3:Option Addr) (l3:Nat) (c3:Nat) (n4:Int) (Q:QT) (H:ae):Prop :=
 shH (H.push (.cells #[pV p1,iV n2,lV a3 l3 c3] 138)) fun C1=>∃ p5,aa C1 (A0 H.size)=some (pV p5)∧∃ n6,aa C1 ((A0 H.size).add 1)=some (iV n6)∧∃ a7 l7 c7,aa C1 ((A0 H.size).add 2)=some (lV a7 l7 c7)∧∃ n8,aa C1 ((A0 H.size).add 1)=some (iV n8)∧cS 222 #[.agg #[pV p5,iV n6,lV a7 l7 c7],iV n8] (fun v9 H1=>∃ n10 n11,v9=.tuple #[iV n10,iV n11]∧cond (n4 == 12) (Q (.bool (n10 == 7)) H1) (cond (n4 == 14) (cond (n10 == 6) (∃ p12,aa H1 (A0 H.size)=some (pV p12)∧∃ n13,aa H1 ((A0 H.size).add 1)=some (iV n13)∧∃ a14 l14 c14,aa H1 ((A0 H.size).add 2)=some (lV a14 l14 c14)∧∃ n15,aa H1 ((A0 H.size).add 1)=some (iV n15)∧cS 223 #[.agg #[pV p12,iV n13,lV a14 l14 c14],iV n15,iV 4] (fun v16 H2=>∃ n17,v16=iV n17∧cS 13 #[iV n17] (fun v18 H3=>∃ n19,v18=iV n19∧Q (.bool (n19 == 1)) H3) H2) H1) (Q (.bool false) H1)) (cond (n4 == 17) (Q (.bool (n10 == 2)) H1) (Q (.bool true) H1)))) C1
theorem ED {p1:Option Addr}{n2:Int}{a3:Option Addr}{l3:Nat}{c3:Nat}{n4:Int} (h:LW p1 n2 a3 l3 c3 n4 Q H):ac PP 88 #[.agg #[.pointer p1,.int .i64 n2,.slice a3 l3 c3],.int .i64 n4] Q H :=
 okF Tryz.func88 rfl h
abbrev Ed:Nat:=171
def KM (p1:Option Addr) (n2:Int) (a3:Option Addr) (l3:Nat) (c3:Nat) (Q:QT) (H:ae):Prop :=
 shH (H.push (.cells #[pV p1,iV n2,lV a3 l3 c3] 138)) fun C1=>∃ n4,aa C1 ((A0 H.size).add 1)=some (iV n4)∧∃ a5 l5 c5,aa C1 ((A0 H.size).add 2)=some (lV a5 l5 c5)∧((0:Int)<=0∧0<(l5:Int))∧∃ q6,a5=some q6∧∃ n7,aa C1 (q6.add (Int.toNat 0*1))=some (iV n7)∧cS 286 #[.bool (n4 == n7)] (fun v8 H1=>∃ n9 n10,v8=.tuple #[iV n9,iV n10]∧True∧Q (.tuple #[iV n9,iV n10]) H1) C1
theorem Ao {p1:Option Addr}{n2:Int}{a3:Option Addr}{l3:Nat}{c3:Nat} (h:KM p1 n2 a3 l3 c3 Q H):ac PP 171 #[.agg #[.pointer p1,.int .i64 n2,.slice a3 l3 c3]] Q H :=
 okF Tryz.func171 rfl h
abbrev BA:Nat:=172
def GC (p1:Option Addr) (n2:Int) (a3:Option Addr) (l3:Nat) (c3:Nat) (Q:QT) (H:ae):Prop :=
 shH (H.push (.cells #[pV p1,iV n2,lV a3 l3 c3] 138)) fun C1=>∃ n4,aa C1 ((A0 H.size).add 1)=some (iV n4)∧∃ a5 l5 c5,aa C1 ((A0 H.size).add 2)=some (lV a5 l5 c5)∧((0:Int)<=0∧0<(l5:Int))∧∃ q6,a5=some q6∧∃ n7,aa C1 (q6.add (Int.toNat 0*1))=some (iV n7)∧cS 286 #[.bool (n4 != n7)] (fun v8 H1=>∃ n9 n10,v8=.tuple #[iV n9,iV n10]∧True∧Q (.tuple #[iV n9,iV n10]) H1) C1
theorem yd {p1:Option Addr}{n2:Int}{a3:Option Addr}{l3:Nat}{c3:Nat} (h:GC p1 n2 a3 l3 c3 Q H):ac PP 172 #[.agg #[.pointer p1,.int .i64 n2,.slice a3 l3 c3]] Q H :=
 okF Tryz.func172 rfl h
abbrev CS:Nat:=173
def GK (p1:Option Addr) (n2:Int) (a3:Option Addr) (l3:Nat) (c3:Nat) (Q:QT) (H:ae):Prop :=
 shH (H.push (.cells #[pV p1,iV n2,lV a3 l3 c3] 138)) fun C1=>∃ p4,aa C1 (A0 H.size)=some (pV p4)∧∃ n5,aa C1 ((A0 H.size).add 1)=some (iV n5)∧∃ a6 l6 c6,aa C1 ((A0 H.size).add 2)=some (lV a6 l6 c6)∧∃ n7,aa C1 ((A0 H.size).add 1)=some (iV n7)∧cS 86 #[.agg #[pV p4,iV n5,lV a6 l6 c6],iV n7] (fun v8 H1=>∃ n9,v8=iV n9∧cS 84 #[iV n9] (fun v10 H2=>∃ n11 n12,v10=.tuple #[iV n11,iV n12]∧Q (.tuple #[iV n11,iV n12]) H2) H1) C1
theorem zu {p1:Option Addr}{n2:Int}{a3:Option Addr}{l3:Nat}{c3:Nat} (h:GK p1 n2 a3 l3 c3 Q H):ac PP 173 #[.agg #[.pointer p1,.int .i64 n2,.slice a3 l3 c3]] Q H :=
 okF Tryz.func173 rfl h
abbrev C0:Nat:=174
def IS (p1:Option Addr) (n2:Int) (a3:Option Addr) (l3:Nat) (c3:Nat) (Q:QT) (H:ae):Prop :=
 ∃ n4,aa (H.push (.cells #[pV p1,iV n2,lV a3 l3 c3] 138)) ((A0 H.size).add 1)=some (iV n4)∧cS 286 #[.bool (n4 == 4)] (fun v5 H1=>∃ n6 n7,v5=.tuple #[iV n6,iV n7]∧Q (.tuple #[iV n6,iV n7]) H1) (H.push (.cells #[pV p1,iV n2,lV a3 l3 c3] 138))
theorem AC {p1:Option Addr}{n2:Int}{a3:Option Addr}{l3:Nat}{c3:Nat} (h:IS p1 n2 a3 l3 c3 Q H):ac PP 174 #[.agg #[.pointer p1,.int .i64 n2,.slice a3 l3 c3]] Q H :=
 okF Tryz.func174 rfl h
abbrev EI:Nat:=175
def FH (p1:Option Addr) (n2:Int) (a3:Option Addr) (l3:Nat) (c3:Nat) (Q:QT) (H:ae):Prop :=
 ∃ n4,aa (H.push (.cells #[pV p1,iV n2,lV a3 l3 c3] 138)) ((A0 H.size).add 1)=some (iV n4)∧cS 286 #[.bool (n4 != 4)] (fun v5 H1=>∃ n6 n7,v5=.tuple #[iV n6,iV n7]∧Q (.tuple #[iV n6,iV n7]) H1) (H.push (.cells #[pV p1,iV n2,lV a3 l3 c3] 138))
theorem AI {p1:Option Addr}{n2:Int}{a3:Option Addr}{l3:Nat}{c3:Nat} (h:FH p1 n2 a3 l3 c3 Q H):ac PP 175 #[.agg #[.pointer p1,.int .i64 n2,.slice a3 l3 c3]] Q H :=
 okF Tryz.func175 rfl h
abbrev B2:Nat:=176
def Hg (p1:Option Addr) (n2:Int) (a3:Option Addr) (l3:Nat) (c3:Nat) (Q:QT) (H:ae):Prop :=
 ∃ n4,aa (H.push (.cells #[pV p1,iV n2,lV a3 l3 c3] 138)) ((A0 H.size).add 1)=some (iV n4)∧Q (.tuple #[iV n4,iV 0]) (H.push (.cells #[pV p1,iV n2,lV a3 l3 c3] 138))
theorem yH {p1:Option Addr}{n2:Int}{a3:Option Addr}{l3:Nat}{c3:Nat} (h:Hg p1 n2 a3 l3 c3 Q H):ac PP 176 #[.agg #[.pointer p1,.int .i64 n2,.slice a3 l3 c3]] Q H :=
 okF Tryz.func176 rfl h
abbrev Du:Nat:=177
def Hs (p1:Option Addr) (n2:Int) (a3:Option Addr) (l3:Nat) (c3:Nat) (Q:QT) (H:ae):Prop :=
 shH (H.push (.cells #[pV p1,iV n2,lV a3 l3 c3] 138)) fun C1=>∃ p4,aa C1 (A0 H.size)=some (pV p4)∧∃ n5,aa C1 ((A0 H.size).add 1)=some (iV n5)∧∃ a6 l6 c6,aa C1 ((A0 H.size).add 2)=some (lV a6 l6 c6)∧∃ a7 l7 c7,aa C1 ((A0 H.size).add 2)=some (lV a7 l7 c7)∧((0:Int)<=0∧0<(l7:Int))∧∃ q8,a7=some q8∧∃ n9,aa C1 (q8.add (Int.toNat 0*1))=some (iV n9)∧cS 86 #[.agg #[pV p4,iV n5,lV a6 l6 c6],iV n9] (fun v10 H1=>∃ n11,v10=iV n11∧True∧cond (n11 != 12) (Q (.tuple #[iV 0,iV 170]) H1) (∃ a12 l12 c12,aa H1 ((A0 H.size).add 2)=some (lV a12 l12 c12)∧((0:Int)<=0∧0<(l12:Int))∧∃ q13,a12=some q13∧∃ n14,aa H1 (q13.add (Int.toNat 0*1))=some (iV n14)∧cS 89 #[iV n14] (fun v15 H2=>∃ n16 n17,v15=.tuple #[iV n16,iV n17]∧∃ p18,aa H2 (A0 H.size)=some (pV p18)∧∃ n19,aa H2 ((A0 H.size).add 1)=some (iV n19)∧∃ a20 l20 c20,aa H2 ((A0 H.size).add 2)=some (lV a20 l20 c20)∧∃ n21,aa H2 ((A0 H.size).add 1)=some (iV n21)∧cS 87 #[.agg #[pV p18,iV n19,lV a20 l20 c20],iV n21,iV n16] (fun v22 H3=>∃ b23,v22=.bool b23∧cS 286 #[.bool b23] (fun v24 H4=>∃ n25 n26,v24=.tuple #[iV n25,iV n26]∧Q (.tuple #[iV n25,iV n26]) H4) H3) H2) H1)) C1
theorem zP {p1:Option Addr}{n2:Int}{a3:Option Addr}{l3:Nat}{c3:Nat} (h:Hs p1 n2 a3 l3 c3 Q H):ac PP 177 #[.agg #[.pointer p1,.int .i64 n2,.slice a3 l3 c3]] Q H :=
 okF Tryz.func177 rfl h
abbrev DA:Nat:=178
def Kp (p1:Option Addr) (n2:Int) (a3:Option Addr) (l3:Nat) (c3:Nat) (Q:QT) (H:ae):Prop :=
 shH (H.push (.cells #[pV p1,iV n2,lV a3 l3 c3] 138)) fun C1=>∃ p4,aa C1 (A0 H.size)=some (pV p4)∧∃ n5,aa C1 ((A0 H.size).add 1)=some (iV n5)∧∃ a6 l6 c6,aa C1 ((A0 H.size).add 2)=some (lV a6 l6 c6)∧cS 287 #[.agg #[pV p4,iV n5,lV a6 l6 c6]] (fun v7 H1=>∃ n8,v7=iV n8∧cS 268 #[iV n8] (fun v9 H2=>∃ n10 n11,v9=.tuple #[iV n10,iV n11]∧Q (.tuple #[iV n10,iV n11]) H2) H1) C1
theorem xt {p1:Option Addr}{n2:Int}{a3:Option Addr}{l3:Nat}{c3:Nat} (h:Kp p1 n2 a3 l3 c3 Q H):ac PP 178 #[.agg #[.pointer p1,.int .i64 n2,.slice a3 l3 c3]] Q H :=
 okF Tryz.func178 rfl h
abbrev Fc:Nat:=179
def F0 (p1:Option Addr) (n2:Int) (a3:Option Addr) (l3:Nat) (c3:Nat) (Q:QT) (H:ae):Prop :=
 shH (H.push (.cells #[pV p1,iV n2,lV a3 l3 c3] 138)) fun C1=>∃ p4,aa C1 (A0 H.size)=some (pV p4)∧∃ n5,aa C1 ((A0 H.size).add 1)=some (iV n5)∧∃ a6 l6 c6,aa C1 ((A0 H.size).add 2)=some (lV a6 l6 c6)∧∃ p7,aa C1 (A0 H.size)=some (pV p7)∧∃ n8,aa C1 ((A0 H.size).add 1)=some (iV n8)∧∃ a9 l9 c9,aa C1 ((A0 H.size).add 2)=some (lV a9 l9 c9)∧cS 287 #[.agg #[pV p7,iV n8,lV a9 l9 c9]] (fun v10 H1=>∃ n11,v10=iV n11∧((aa H1 (A0 H.size)=some (pV p4)∧(aa H1 ((A0 H.size).add 1)=some (iV n5)∧(aa H1 ((A0 H.size).add 2)=some (lV a6 l6 c6)∧True)))∧True)∧cS 288 #[.agg #[pV p4,iV n5,lV a6 l6 c6],iV n11] (fun v12 H2=>∃ n13 n14,v12=.tuple #[iV n13,iV n14]∧True∧Q (.tuple #[iV n13,iV n14]) H2) H1) C1
theorem xA {p1:Option Addr}{n2:Int}{a3:Option Addr}{l3:Nat}{c3:Nat} (h:F0 p1 n2 a3 l3 c3 Q H):ac PP 179 #[.agg #[.pointer p1,.int .i64 n2,.slice a3 l3 c3]] Q H :=
 okF Tryz.func179 rfl h
abbrev Cq:Nat:=180
def Gc (p1:Option Addr) (n2:Int) (a3:Option Addr) (l3:Nat) (c3:Nat) (Q:QT) (H:ae):Prop :=
 shH (H.push (.cells #[pV p1,iV n2,lV a3 l3 c3] 138)) fun C1=>∃ p4,aa C1 (A0 H.size)=some (pV p4)∧∃ n5,aa C1 ((A0 H.size).add 1)=some (iV n5)∧∃ a6 l6 c6,aa C1 ((A0 H.size).add 2)=some (lV a6 l6 c6)∧∃ n7,aa C1 ((A0 H.size).add 1)=some (iV n7)∧cS 86 #[.agg #[pV p4,iV n5,lV a6 l6 c6],iV n7] (fun v8 H1=>∃ n9,v8=iV n9∧∃ p10,aa H1 (A0 H.size)=some (pV p10)∧∃ n11,aa H1 ((A0 H.size).add 1)=some (iV n11)∧∃ a12 l12 c12,aa H1 ((A0 H.size).add 2)=some (lV a12 l12 c12)∧∃ n13,aa H1 ((A0 H.size).add 1)=some (iV n13)∧cS 222 #[.agg #[pV p10,iV n11,lV a12 l12 c12],iV n13] (fun v14 H2=>∃ n15 n16,v14=.tuple #[iV n15,iV n16]∧cond (n9 == 10) (∃ p17,aa H2 (A0 H.size)=some (pV p17)∧∃ n18,aa H2 ((A0 H.size).add 1)=some (iV n18)∧∃ a19 l19 c19,aa H2 ((A0 H.size).add 2)=some (lV a19 l19 c19)∧∃ p20,aa H2 (A0 H.size)=some (pV p20)∧∃ n21,aa H2 ((A0 H.size).add 1)=some (iV n21)∧∃ a22 l22 c22,aa H2 ((A0 H.size).add 2)=some (lV a22 l22 c22)∧∃ n23,aa H2 ((A0 H.size).add 1)=some (iV n23)∧cS 291 #[.agg #[pV p20,iV n21,lV a22 l22 c22],iV n23] (fun v24 H3=>∃ a25 l25 c25,v24=lV a25 l25 c25∧((aa H3 (A0 H.size)=some (pV p17)∧(aa H3 ((A0 H.size).add 1)=some (iV n18)∧(aa H3 ((A0 H.size).add 2)=some (lV a19 l19 c19)∧True)))∧True)∧cS 290 #[.agg #[pV p17,iV n18,lV a19 l19 c19],iV n9,iV n16,lV a25 l25 c25] (fun v26 H4=>∃ n27 n28,v26=.tuple #[iV n27,iV n28]∧True∧Q (.tuple #[iV n27,iV n28]) H4) H3) H2) (cond (n9 == 11) (cond (decide (n15 > 0)) (∃ p29,aa H2 (A0 H.size)=some (pV p29)∧∃ n30,aa H2 ((A0 H.size).add 1)=some (iV n30)∧∃ a31 l31 c31,aa H2 ((A0 H.size).add 2)=some (lV a31 l31 c31)∧∃ p32,aa H2 (A0 H.size)=some (pV p32)∧∃ n33,aa H2 ((A0 H.size).add 1)=some (iV n33)∧∃ a34 l34 c34,aa H2 ((A0 H.size).add 2)=some (lV a34 l34 c34)∧∃ n35,aa H2 ((A0 H.size).add 1)=some (iV n35)∧cS 291 #[.agg #[pV p32,iV n33,lV a34 l34 c34],iV n35] (fun v36 H5=>∃ a37 l37 c37,v36=lV a37 l37 c37∧((aa H5 (A0 H.size)=some (pV p29)∧(aa H5 ((A0 H.size).add 1)=some (iV n30)∧(aa H5 ((A0 H.size).add 2)=some (lV a31 l31 c31)∧True)))∧True)∧cS 290 #[.agg #[pV p29,iV n30,lV a31 l31 c31],iV n9,iV n16,lV a37 l37 c37] (fun v38 H6=>∃ n39 n40,v38=.tuple #[iV n39,iV n40]∧True∧Q (.tuple #[iV n39,iV n40]) H6) H5) H2) (∃ p41,aa H2 (A0 H.size)=some (pV p41)∧∃ n42,aa H2 ((A0 H.size).add 1)=some (iV n42)∧∃ a43 l43 c43,aa H2 ((A0 H.size).add 2)=some (lV a43 l43 c43)∧∃ n44,aa H2 ((A0 H.size).add 1)=some (iV n44)∧cS 289 #[.agg #[pV p41,iV n42,lV a43 l43 c43],iV n44] (fun v45 H7=>∃ b46,v45=.bool b46∧cond b46 (∃ p47,aa H7 (A0 H.size)=some (pV p47)∧∃ n48,aa H7 ((A0 H.size).add 1)=some (iV n48)∧∃ a49 l49 c49,aa H7 ((A0 H.size).add 2)=some (lV a49 l49 c49)∧∃ p50,aa H7 (A0 H.size)=some (pV p50)∧∃ n51,aa H7 ((A0 H.size).add 1)=some (iV n51)∧∃ a52 l52 c52,aa H7 ((A0 H.size).add 2)=some (lV a52 l52 c52)∧∃ n53,aa H7 ((A0 H.size).add 1)=some (iV n53)∧cS 291 #[.agg #[pV p50,iV n51,lV a52 l52 c52],iV n53] (fun v54 H8=>∃ a55 l55 c55,v54=lV a55 l55 c55∧((aa H8 (A0 H.size)=some (pV p47)∧(aa H8 ((A0 H.size).add 1)=some (iV n48)∧(aa H8 ((A0 H.size).add 2)=some (lV a49 l49 c49)∧True)))∧True)∧cS 290 #[.agg #[pV p47,iV n48,lV a49 l49 c49],iV n9,iV n16,lV a55 l55 c55] (fun v56 H9=>∃ n57 n58,v56=.tuple #[iV n57,iV n58]∧True∧Q (.tuple #[iV n57,iV n58]) H9) H8) H7) (∃ n59,aa H7 ((A0 H.size).add 1)=some (iV n59)∧Q (.tuple #[iV n59,iV 0]) H7)) H2)) (∃ p60,aa H2 (A0 H.size)=some (pV p60)∧∃ n61,aa H2 ((A0 H.size).add 1)=some (iV n61)∧∃ a62 l62 c62,aa H2 ((A0 H.size).add 2)=some (lV a62 l62 c62)∧∃ n63,aa H2 ((A0 H.size).add 1)=some (iV n63)∧cS 289 #[.agg #[pV p60,iV n61,lV a62 l62 c62],iV n63] (fun v64 H10=>∃ b65,v64=.bool b65∧cond b65 (∃ p66,aa H10 (A0 H.size)=some (pV p66)∧∃ n67,aa H10 ((A0 H.size).add 1)=some (iV n67)∧∃ a68 l68 c68,aa H10 ((A0 H.size).add 2)=some (lV a68 l68 c68)∧∃ p69,aa H10 (A0 H.size)=some (pV p69)∧∃ n70,aa H10 ((A0 H.size).add 1)=some (iV n70)∧∃ a71 l71 c71,aa H10 ((A0 H.size).add 2)=some (lV a71 l71 c71)∧∃ n72,aa H10 ((A0 H.size).add 1)=some (iV n72)∧cS 291 #[.agg #[pV p69,iV n70,lV a71 l71 c71],iV n72] (fun v73 H11=>∃ a74 l74 c74,v73=lV a74 l74 c74∧((aa H11 (A0 H.size)=some (pV p66)∧(aa H11 ((A0 H.size).add 1)=some (iV n67)∧(aa H11 ((A0 H.size).add 2)=some (lV a68 l68 c68)∧True)))∧True)∧cS 290 #[.agg #[pV p66,iV n67,lV a68 l68 c68],iV n9,iV n16,lV a74 l74 c74] (fun v75 H12=>∃ n76 n77,v75=.tuple #[iV n76,iV n77]∧True∧Q (.tuple #[iV n76,iV n77]) H12) H11) H10) (∃ n78,aa H10 ((A0 H.size).add 1)=some (iV n78)∧Q (.tuple #[iV n78,iV 0]) H10)) H2))) H1) C1
theorem y6 {p1:Option Addr}{n2:Int}{a3:Option Addr}{l3:Nat}{c3:Nat} (h:Gc p1 n2 a3 l3 c3 Q H):ac PP 180 #[.agg #[.pointer p1,.int .i64 n2,.slice a3 l3 c3]] Q H :=
 okF Tryz.func180 rfl h
abbrev DR:Nat:=181
def Ie  (Q:QT) (H:ae):Prop :=
 aK PP (Instr.mapUpdate 135 (.map (some H.size)) (sV (⟨#[110,111,116]⟩:ByteArray)) (.agg #[iV 0,.func (.func 292) #[] #[]])) (fun _ H1=>aK PP (Instr.mapUpdate 135 (.map (some H.size)) (sV (⟨#[38]⟩:ByteArray)) (.agg #[iV 1,.func (.func 293) #[] #[]])) (fun _ H2=>aK PP (Instr.mapUpdate 135 (.map (some H.size)) (sV (⟨#[97,110,100,58]⟩:ByteArray)) (.agg #[iV 1,.func (.func 293) #[] #[]])) (fun _ H3=>aK PP (Instr.mapUpdate 135 (.map (some H.size)) (sV (⟨#[111,114,58]⟩:ByteArray)) (.agg #[iV 1,.func (.func 294) #[] #[]])) (fun _ H4=>Q (.map (some H.size)) H4) H3) H2) H1) (H.push (.map #[] 0))
theorem Ad  (h:Ie  Q H):ac PP 181 #[] Q H :=
 okF Tryz.func181 rfl h
abbrev DX:Nat:=182
def KG (f0:Nat) (g0:Array Value) (h0:Array Value) (Q:QT) (H:ae):Prop :=
 Q (.func (.func 295) #[] #[pV (some (A0 H.size))]) (H.push (.cells #[.func (.func f0) g0 h0] 223))
theorem Ah {f0:Nat}{g0:Array Value}{h0:Array Value} (h:KG f0 g0 h0 Q H):ac PP 182 #[.func (.func f0) g0 h0] Q H :=
 okF Tryz.func182 rfl h
abbrev Bv:Nat:=192
def Gr (f0:Nat) (g0:Array Value) (h0:Array Value) (Q:QT) (H:ae):Prop :=
 Q (.func (.func 299) #[] #[pV (some (A0 H.size))]) (H.push (.cells #[.func (.func f0) g0 h0] 53))
theorem xX {f0:Nat}{g0:Array Value}{h0:Array Value} (h:Gr f0 g0 h0 Q H):ac PP 192 #[.func (.func f0) g0 h0] Q H :=
 okF Tryz.func192 rfl h
abbrev CK:Nat:=193
def Ld (n1:Int) (n2:Int) (Q:QT) (H:ae):Prop :=
 Q (.bool (decide (n1<n2))) H
theorem zn {n1:Int}{n2:Int} (h:Ld n1 n2 Q H):ac PP 193 #[.int .i64 n1,.int .i64 n2] Q H :=
 okF Tryz.func193 rfl h
abbrev Eo:Nat:=194
def Lr (n1:Int) (n2:Int) (Q:QT) (H:ae):Prop :=
 Q (.bool (decide (n1 > n2))) H
theorem Av {n1:Int}{n2:Int} (h:Lr n1 n2 Q H):ac PP 194 #[.int .i64 n1,.int .i64 n2] Q H :=
 okF Tryz.func194 rfl h
abbrev Ez:Nat:=195
def K1 (n1:Int) (n2:Int) (Q:QT) (H:ae):Prop :=
 Q (.bool (decide (n1<=n2))) H
theorem AD {n1:Int}{n2:Int} (h:K1 n1 n2 Q H):ac PP 195 #[.int .i64 n1,.int .i64 n2] Q H :=
 okF Tryz.func195 rfl h
abbrev BX:Nat:=196
def Lf (n1:Int) (n2:Int) (Q:QT) (H:ae):Prop :=
 Q (.bool (decide (n1 ≥ n2))) H
theorem yC {n1:Int}{n2:Int} (h:Lf n1 n2 Q H):ac PP 196 #[.int .i64 n1,.int .i64 n2] Q H :=
 okF Tryz.func196 rfl h
abbrev Dn:Nat:=197
def Lg (n1:Int) (n2:Int) (Q:QT) (H:ae):Prop :=
 Q (.tuple #[iV (if n2<n1 then n2 else n1),iV 0]) H
theorem zK {n1:Int}{n2:Int} (h:Lg n1 n2 Q H):ac PP 197 #[.int .i64 n1,.int .i64 n2] Q H :=
 okF Tryz.func197 rfl h
abbrev Dv:Nat:=198
def Lv (n1:Int) (n2:Int) (Q:QT) (H:ae):Prop :=
 Q (.tuple #[iV (if n1<n2 then n2 else n1),iV 0]) H
theorem xl {n1:Int}{n2:Int} (h:Lv n1 n2 Q H):ac PP 198 #[.int .i64 n1,.int .i64 n2] Q H :=
 okF Tryz.func198 rfl h
abbrev E2:Nat:=199
def FZ (p1:Option Addr) (n2:Int) (a3:Option Addr) (l3:Nat) (c3:Nat) (Q:QT) (H:ae):Prop :=
 shH (H.push (.cells #[pV p1,iV n2,lV a3 l3 c3] 138)) fun C1=>∃ p4,aa C1 (A0 H.size)=some (pV p4)∧∃ n5,aa C1 ((A0 H.size).add 1)=some (iV n5)∧∃ a6 l6 c6,aa C1 ((A0 H.size).add 2)=some (lV a6 l6 c6)∧cS 300 #[.agg #[pV p4,iV n5,lV a6 l6 c6]] (fun v7 H1=>∃ n8,v7=iV n8∧cS 184 #[iV 0,iV n8] (fun v9 H2=>∃ n10 n11,v9=.tuple #[iV n10,iV n11]∧cond (n11 != 0) (Q (.tuple #[iV 0,iV n11]) H2) (cS 268 #[iV n10] (fun v12 H3=>∃ n13 n14,v12=.tuple #[iV n13,iV n14]∧Q (.tuple #[iV n13,iV n14]) H3) H2)) H1) C1
theorem xu {p1:Option Addr}{n2:Int}{a3:Option Addr}{l3:Nat}{c3:Nat} (h:FZ p1 n2 a3 l3 c3 Q H):ac PP 199 #[.agg #[.pointer p1,.int .i64 n2,.slice a3 l3 c3]] Q H :=
 okF Tryz.func199 rfl h
abbrev Cl:Nat:=200
def HL (p1:Option Addr) (n2:Int) (a3:Option Addr) (l3:Nat) (c3:Nat) (Q:QT) (H:ae):Prop :=
 shH (H.push (.cells #[pV p1,iV n2,lV a3 l3 c3] 138)) fun C1=>∃ p4,aa C1 (A0 H.size)=some (pV p4)∧∃ n5,aa C1 ((A0 H.size).add 1)=some (iV n5)∧∃ a6 l6 c6,aa C1 ((A0 H.size).add 2)=some (lV a6 l6 c6)∧cS 300 #[.agg #[pV p4,iV n5,lV a6 l6 c6]] (fun v7 H1=>∃ n8,v7=iV n8∧cond (decide (n8<0)) (∃ p9,aa H1 (A0 H.size)=some (pV p9)∧∃ n10,aa H1 ((A0 H.size).add 1)=some (iV n10)∧∃ a11 l11 c11,aa H1 ((A0 H.size).add 2)=some (lV a11 l11 c11)∧cS 199 #[.agg #[pV p9,iV n10,lV a11 l11 c11]] (fun v12 H2=>∃ n13 n14,v12=.tuple #[iV n13,iV n14]∧Q (.tuple #[iV n13,iV n14]) H2) H1) (∃ n15,aa H1 ((A0 H.size).add 1)=some (iV n15)∧Q (.tuple #[iV n15,iV 0]) H1)) C1
theorem yX {p1:Option Addr}{n2:Int}{a3:Option Addr}{l3:Nat}{c3:Nat} (h:HL p1 n2 a3 l3 c3 Q H):ac PP 200 #[.agg #[.pointer p1,.int .i64 n2,.slice a3 l3 c3]] Q H :=
 okF Tryz.func200 rfl h
abbrev DM:Nat:=201
def HU (p1:Option Addr) (n2:Int) (a3:Option Addr) (l3:Nat) (c3:Nat) (Q:QT) (H:ae):Prop :=
 shH (H.push (.cells #[pV p1,iV n2,lV a3 l3 c3] 138)) fun C1=>∃ p4,aa C1 (A0 H.size)=some (pV p4)∧∃ n5,aa C1 ((A0 H.size).add 1)=some (iV n5)∧∃ a6 l6 c6,aa C1 ((A0 H.size).add 2)=some (lV a6 l6 c6)∧cS 300 #[.agg #[pV p4,iV n5,lV a6 l6 c6]] (fun v7 H1=>∃ n8,v7=iV n8∧cS 286 #[.bool ((ja .i64 n8 1) == 0)] (fun v9 H2=>∃ n10 n11,v9=.tuple #[iV n10,iV n11]∧Q (.tuple #[iV n10,iV n11]) H2) H1) C1
theorem Aa {p1:Option Addr}{n2:Int}{a3:Option Addr}{l3:Nat}{c3:Nat} (h:HU p1 n2 a3 l3 c3 Q H):ac PP 201 #[.agg #[.pointer p1,.int .i64 n2,.slice a3 l3 c3]] Q H :=
 okF Tryz.func201 rfl h
abbrev DT:Nat:=202
def KC (p1:Option Addr) (n2:Int) (a3:Option Addr) (l3:Nat) (c3:Nat) (Q:QT) (H:ae):Prop :=
 shH (H.push (.cells #[pV p1,iV n2,lV a3 l3 c3] 138)) fun C1=>∃ p4,aa C1 (A0 H.size)=some (pV p4)∧∃ n5,aa C1 ((A0 H.size).add 1)=some (iV n5)∧∃ a6 l6 c6,aa C1 ((A0 H.size).add 2)=some (lV a6 l6 c6)∧cS 300 #[.agg #[pV p4,iV n5,lV a6 l6 c6]] (fun v7 H1=>∃ n8,v7=iV n8∧cS 286 #[.bool ((ja .i64 n8 1) == 1)] (fun v9 H2=>∃ n10 n11,v9=.tuple #[iV n10,iV n11]∧Q (.tuple #[iV n10,iV n11]) H2) H1) C1
theorem xM {p1:Option Addr}{n2:Int}{a3:Option Addr}{l3:Nat}{c3:Nat} (h:KC p1 n2 a3 l3 c3 Q H):ac PP 202 #[.agg #[.pointer p1,.int .i64 n2,.slice a3 l3 c3]] Q H :=
 okF Tryz.func202 rfl h
abbrev Bq:Nat:=203
def Gl (p1:Option Addr) (n2:Int) (a3:Option Addr) (l3:Nat) (c3:Nat) (Q:QT) (H:ae):Prop :=
 shH (H.push (.cells #[pV p1,iV n2,lV a3 l3 c3] 138)) fun C1=>∃ p4,aa C1 (A0 H.size)=some (pV p4)∧∃ n5,aa C1 ((A0 H.size).add 1)=some (iV n5)∧∃ a6 l6 c6,aa C1 ((A0 H.size).add 2)=some (lV a6 l6 c6)∧cS 300 #[.agg #[pV p4,iV n5,lV a6 l6 c6]] (fun v7 H1=>∃ n8,v7=iV n8∧cS 301 #[iV n8] (fun v9 H2=>∃ s10 n11,v9=.tuple #[sV s10,iV n11]∧∃ p12,aa H2 (A0 H.size)=some (pV p12)∧∃ n13,aa H2 ((A0 H.size).add 1)=some (iV n13)∧∃ a14 l14 c14,aa H2 ((A0 H.size).add 2)=some (lV a14 l14 c14)∧cS 302 #[.agg #[pV p12,iV n13,lV a14 l14 c14],sV s10] (fun v15 H3=>∃ n16 n17,v15=.tuple #[iV n16,iV n17]∧Q (.tuple #[iV n16,iV n17]) H3) H2) H1) C1
theorem xS {p1:Option Addr}{n2:Int}{a3:Option Addr}{l3:Nat}{c3:Nat} (h:Gl p1 n2 a3 l3 c3 Q H):ac PP 203 #[.agg #[.pointer p1,.int .i64 n2,.slice a3 l3 c3]] Q H :=
 okF Tryz.func203 rfl h
abbrev CC:Nat:=204
def Gt (p1:Option Addr) (n2:Int) (a3:Option Addr) (l3:Nat) (c3:Nat) (Q:QT) (H:ae):Prop :=
 shH (H.push (.cells #[pV p1,iV n2,lV a3 l3 c3] 138)) fun C1=>∃ p4,aa C1 (A0 H.size)=some (pV p4)∧∃ n5,aa C1 ((A0 H.size).add 1)=some (iV n5)∧∃ a6 l6 c6,aa C1 ((A0 H.size).add 2)=some (lV a6 l6 c6)∧∃ n7,aa C1 ((A0 H.size).add 1)=some (iV n7)∧cS 303 #[.agg #[pV p4,iV n5,lV a6 l6 c6],iV n7] (fun v8 H1=>∃ s9,v8=sV s9∧cS 268 #[iV (s9.size:Int)] (fun v10 H2=>∃ n11 n12,v10=.tuple #[iV n11,iV n12]∧Q (.tuple #[iV n11,iV n12]) H2) H1) C1
theorem zg {p1:Option Addr}{n2:Int}{a3:Option Addr}{l3:Nat}{c3:Nat} (h:Gt p1 n2 a3 l3 c3 Q H):ac PP 204 #[.agg #[.pointer p1,.int .i64 n2,.slice a3 l3 c3]] Q H :=
 okF Tryz.func204 rfl h
abbrev Ei:Nat:=205
def IA (p1:Option Addr) (n2:Int) (a3:Option Addr) (l3:Nat) (c3:Nat) (Q:QT) (H:ae):Prop :=
 shH (H.push (.cells #[pV p1,iV n2,lV a3 l3 c3] 138)) fun C1=>∃ p4,aa C1 (A0 H.size)=some (pV p4)∧∃ n5,aa C1 ((A0 H.size).add 1)=some (iV n5)∧∃ a6 l6 c6,aa C1 ((A0 H.size).add 2)=some (lV a6 l6 c6)∧∃ p7,aa C1 (A0 H.size)=some (pV p7)∧∃ n8,aa C1 ((A0 H.size).add 1)=some (iV n8)∧∃ a9 l9 c9,aa C1 ((A0 H.size).add 2)=some (lV a9 l9 c9)∧∃ n10,aa C1 ((A0 H.size).add 1)=some (iV n10)∧cS 303 #[.agg #[pV p7,iV n8,lV a9 l9 c9],iV n10] (fun v11 H1=>∃ s12,v11=sV s12∧((aa H1 (A0 H.size)=some (pV p4)∧(aa H1 ((A0 H.size).add 1)=some (iV n5)∧(aa H1 ((A0 H.size).add 2)=some (lV a6 l6 c6)∧True)))∧True)∧cS 302 #[.agg #[pV p4,iV n5,lV a6 l6 c6],sV s12] (fun v13 H2=>∃ n14 n15,v13=.tuple #[iV n14,iV n15]∧True∧Q (.tuple #[iV n14,iV n15]) H2) H1) C1
theorem Ar {p1:Option Addr}{n2:Int}{a3:Option Addr}{l3:Nat}{c3:Nat} (h:IA p1 n2 a3 l3 c3 Q H):ac PP 205 #[.agg #[.pointer p1,.int .i64 n2,.slice a3 l3 c3]] Q H :=
 okF Tryz.func205 rfl h
abbrev Er:Nat:=206
def Fq (p1:Option Addr) (n2:Int) (a3:Option Addr) (l3:Nat) (c3:Nat) (Q:QT) (H:ae):Prop :=
 shH (H.push (.cells #[pV p1,iV n2,lV a3 l3 c3] 138)) fun C1=>∃ a4 l4 c4,aa C1 ((A0 H.size).add 2)=some (lV a4 l4 c4)∧((0:Int)<=0∧0<(l4:Int))∧∃ q5,a4=some q5∧∃ n6,aa C1 (q5.add (Int.toNat 0*1))=some (iV n6)∧cS 13 #[iV n6] (fun v7 H1=>∃ n8,v7=iV n8∧cond (n8 != 2) (Q (.tuple #[iV 0,iV 170]) H1) (∃ p9,aa H1 (A0 H.size)=some (pV p9)∧∃ n10,aa H1 ((A0 H.size).add 1)=some (iV n10)∧∃ a11 l11 c11,aa H1 ((A0 H.size).add 2)=some (lV a11 l11 c11)∧∃ n12,aa H1 ((A0 H.size).add 1)=some (iV n12)∧∃ p13,aa H1 (A0 H.size)=some (pV p13)∧∃ n14,aa H1 ((A0 H.size).add 1)=some (iV n14)∧∃ a15 l15 c15,aa H1 ((A0 H.size).add 2)=some (lV a15 l15 c15)∧∃ a16 l16 c16,aa H1 ((A0 H.size).add 2)=some (lV a16 l16 c16)∧((0:Int)<=0∧0<(l16:Int))∧∃ q17,a16=some q17∧∃ n18,aa H1 (q17.add (Int.toNat 0*1))=some (iV n18)∧cS 303 #[.agg #[pV p9,iV n10,lV a11 l11 c11],iV n12] (fun v19 H2=>∃ s20,v19=sV s20∧((aa H2 (q17.add (Int.toNat 0*1))=some (iV n18)∧True)∧((aa H2 ((A0 H.size).add 2)=some (lV a16 l16 c16)∧True)∧((aa H2 (A0 H.size)=some (pV p13)∧(aa H2 ((A0 H.size).add 1)=some (iV n14)∧(aa H2 ((A0 H.size).add 2)=some (lV a15 l15 c15)∧True)))∧True)))∧cS 303 #[.agg #[pV p13,iV n14,lV a15 l15 c15],iV n18] (fun v21 H3=>∃ s22,v21=sV s22∧True∧cS 286 #[.bool (Op.bytesLess (ByteArray.toList s20) (ByteArray.toList s22))] (fun v23 H4=>∃ n24 n25,v23=.tuple #[iV n24,iV n25]∧True∧Q (.tuple #[iV n24,iV n25]) H4) H3) H2) H1)) C1
theorem Ax {p1:Option Addr}{n2:Int}{a3:Option Addr}{l3:Nat}{c3:Nat} (h:Fq p1 n2 a3 l3 c3 Q H):ac PP 206 #[.agg #[.pointer p1,.int .i64 n2,.slice a3 l3 c3]] Q H :=
 okF Tryz.func206 rfl h
abbrev BN:Nat:=207
def GO (p1:Option Addr) (n2:Int) (a3:Option Addr) (l3:Nat) (c3:Nat) (Q:QT) (H:ae):Prop :=
 shH (H.push (.cells #[pV p1,iV n2,lV a3 l3 c3] 138)) fun C1=>∃ p4,aa C1 (A0 H.size)=some (pV p4)∧∃ n5,aa C1 ((A0 H.size).add 1)=some (iV n5)∧∃ a6 l6 c6,aa C1 ((A0 H.size).add 2)=some (lV a6 l6 c6)∧∃ n7,aa C1 ((A0 H.size).add 1)=some (iV n7)∧cS 222 #[.agg #[pV p4,iV n5,lV a6 l6 c6],iV n7] (fun v8 H1=>∃ n9 n10,v8=.tuple #[iV n9,iV n10]∧cS 268 #[iV n9] (fun v11 H2=>∃ n12 n13,v11=.tuple #[iV n12,iV n13]∧Q (.tuple #[iV n12,iV n13]) H2) H1) C1
theorem yv {p1:Option Addr}{n2:Int}{a3:Option Addr}{l3:Nat}{c3:Nat} (h:GO p1 n2 a3 l3 c3 Q H):ac PP 207 #[.agg #[.pointer p1,.int .i64 n2,.slice a3 l3 c3]] Q H :=
 okF Tryz.func207 rfl h
abbrev Df:Nat:=208
def GY (p1:Option Addr) (n2:Int) (a3:Option Addr) (l3:Nat) (c3:Nat) (Q:QT) (H:ae):Prop :=
 shH (H.push (.cells #[pV p1,iV n2,lV a3 l3 c3] 138)) fun C1=>∃ p4,aa C1 (A0 H.size)=some (pV p4)∧∃ n5,aa C1 ((A0 H.size).add 1)=some (iV n5)∧∃ a6 l6 c6,aa C1 ((A0 H.size).add 2)=some (lV a6 l6 c6)∧∃ n7,aa C1 ((A0 H.size).add 1)=some (iV n7)∧cS 222 #[.agg #[pV p4,iV n5,lV a6 l6 c6],iV n7] (fun v8 H1=>∃ n9 n10,v8=.tuple #[iV n9,iV n10]∧cS 286 #[.bool (n9 == 0)] (fun v11 H2=>∃ n12 n13,v11=.tuple #[iV n12,iV n13]∧Q (.tuple #[iV n12,iV n13]) H2) H1) C1
theorem zG {p1:Option Addr}{n2:Int}{a3:Option Addr}{l3:Nat}{c3:Nat} (h:GY p1 n2 a3 l3 c3 Q H):ac PP 208 #[.agg #[.pointer p1,.int .i64 n2,.slice a3 l3 c3]] Q H :=
 okF Tryz.func208 rfl h
abbrev EP:Nat:=209
def Kf (p1:Option Addr) (n2:Int) (a3:Option Addr) (l3:Nat) (c3:Nat) (Q:QT) (H:ae):Prop :=
 shH (H.push (.cells #[pV p1,iV n2,lV a3 l3 c3] 138)) fun C1=>∃ p4,aa C1 (A0 H.size)=some (pV p4)∧∃ n5,aa C1 ((A0 H.size).add 1)=some (iV n5)∧∃ a6 l6 c6,aa C1 ((A0 H.size).add 2)=some (lV a6 l6 c6)∧∃ n7,aa C1 ((A0 H.size).add 1)=some (iV n7)∧cS 222 #[.agg #[pV p4,iV n5,lV a6 l6 c6],iV n7] (fun v8 H1=>∃ n9 n10,v8=.tuple #[iV n9,iV n10]∧∃ p11,aa H1 (A0 H.size)=some (pV p11)∧∃ n12,aa H1 ((A0 H.size).add 1)=some (iV n12)∧∃ a13 l13 c13,aa H1 ((A0 H.size).add 2)=some (lV a13 l13 c13)∧cS 304 #[.agg #[pV p11,iV n12,lV a13 l13 c13],iV n9] (fun v14 H2=>∃ n15 n16,v14=.tuple #[iV n15,iV n16]∧cond (n16 != 0) (Q (.tuple #[iV 0,iV n16]) H2) (∃ p17,aa H2 (A0 H.size)=some (pV p17)∧∃ n18,aa H2 ((A0 H.size).add 1)=some (iV n18)∧∃ a19 l19 c19,aa H2 ((A0 H.size).add 2)=some (lV a19 l19 c19)∧∃ n20,aa H2 ((A0 H.size).add 1)=some (iV n20)∧cS 223 #[.agg #[pV p17,iV n18,lV a19 l19 c19],iV n20,iV n15] (fun v21 H3=>∃ n22,v21=iV n22∧cS 268 #[iV n22] (fun v23 H4=>∃ n24 n25,v23=.tuple #[iV n24,iV n25]∧Q (.tuple #[iV n24,iV n25]) H4) H3) H2)) H1) C1
theorem AQ {p1:Option Addr}{n2:Int}{a3:Option Addr}{l3:Nat}{c3:Nat} (h:Kf p1 n2 a3 l3 c3 Q H):ac PP 209 #[.agg #[.pointer p1,.int .i64 n2,.slice a3 l3 c3]] Q H :=
 okF Tryz.func209 rfl h
abbrev EW:Nat:=210
def FW (p1:Option Addr) (n2:Int) (a3:Option Addr) (l3:Nat) (c3:Nat) (Q:QT) (H:ae):Prop :=
 shH (H.push (.cells #[pV p1,iV n2,lV a3 l3 c3] 138)) fun C1=>∃ p4,aa C1 (A0 H.size)=some (pV p4)∧∃ n5,aa C1 ((A0 H.size).add 1)=some (iV n5)∧∃ a6 l6 c6,aa C1 ((A0 H.size).add 2)=some (lV a6 l6 c6)∧∃ n7,aa C1 ((A0 H.size).add 1)=some (iV n7)∧cS 222 #[.agg #[pV p4,iV n5,lV a6 l6 c6],iV n7] (fun v8 H1=>∃ n9 n10,v8=.tuple #[iV n9,iV n10]∧∃ p11,aa H1 (A0 H.size)=some (pV p11)∧∃ n12,aa H1 ((A0 H.size).add 1)=some (iV n12)∧∃ a13 l13 c13,aa H1 ((A0 H.size).add 2)=some (lV a13 l13 c13)∧cS 304 #[.agg #[pV p11,iV n12,lV a13 l13 c13],iV n9] (fun v14 H2=>∃ n15 n16,v14=.tuple #[iV n15,iV n16]∧∃ a17 l17 c17,aa H2 ((A0 H.size).add 2)=some (lV a17 l17 c17)∧((0:Int)<=1∧1<(l17:Int))∧∃ q18,a17=some q18∧∃ n19,aa H2 (q18.add (Int.toNat 1*1))=some (iV n19)∧cS 274 #[iV n19] (fun v20 H3=>∃ n21 n22,v20=.tuple #[iV n21,iV n22]∧cond (n16 == 170) (Q (.tuple #[iV 0,iV 170]) H3) (cond (n22 != 0) (Q (.tuple #[iV 0,iV 170]) H3) (cond (decide (n21<0)) (Q (.tuple #[iV 0,iV 170]) H3) (cond (decide (n21 > 255)) (Q (.tuple #[iV 0,iV 170]) H3) (cond (n16 != 0) (Q (.tuple #[iV 0,iV n16]) H3) (∃ a23 l23 c23,aa H3 ((A0 H.size).add 2)=some (lV a23 l23 c23)∧((0:Int)<=1∧1<(l23:Int))∧∃ q24,a23=some q24∧∃ n25,aa H3 (q24.add (Int.toNat 1*1))=some (iV n25)∧∃ p26,aa H3 (A0 H.size)=some (pV p26)∧∃ n27,aa H3 ((A0 H.size).add 1)=some (iV n27)∧∃ a28 l28 c28,aa H3 ((A0 H.size).add 2)=some (lV a28 l28 c28)∧∃ n29,aa H3 ((A0 H.size).add 1)=some (iV n29)∧cS 305 #[.agg #[pV p26,iV n27,lV a28 l28 c28],iV n29,iV n15,iV n21] (fun v30 H4=>∃ n31,v30=iV n31∧((aa H4 (q24.add (Int.toNat 1*1))=some (iV n25)∧True)∧((aa H4 ((A0 H.size).add 2)=some (lV a23 l23 c23)∧True)∧True))∧Q (.tuple #[iV n25,iV n31]) H4) H3)))))) H2) H1) C1
theorem xn {p1:Option Addr}{n2:Int}{a3:Option Addr}{l3:Nat}{c3:Nat} (h:FW p1 n2 a3 l3 c3 Q H):ac PP 210 #[.agg #[.pointer p1,.int .i64 n2,.slice a3 l3 c3]] Q H :=
 okF Tryz.func210 rfl h
abbrev Cd:Nat:=211
def Hw (p1:Option Addr) (n2:Int) (a3:Option Addr) (l3:Nat) (c3:Nat) (Q:QT) (H:ae):Prop :=
 shH (H.push (.cells #[pV p1,iV n2,lV a3 l3 c3] 138)) fun C1=>∃ p4,aa C1 (A0 H.size)=some (pV p4)∧∃ n5,aa C1 ((A0 H.size).add 1)=some (iV n5)∧∃ a6 l6 c6,aa C1 ((A0 H.size).add 2)=some (lV a6 l6 c6)∧cS 306 #[.agg #[pV p4,iV n5,lV a6 l6 c6]] (fun v7 H1=>∃ s8 s9 b10,v7=.tuple #[sV s8,sV s9,.bool b10]∧cond (!b10) (Q (.tuple #[iV 0,iV 170]) H1) (cond (decide ((wW ((s8.size:Int)+(s9.size:Int))) > 8192)) (Q (.tuple #[iV 0,iV 170]) H1) (∃ p11,aa H1 (A0 H.size)=some (pV p11)∧∃ n12,aa H1 ((A0 H.size).add 1)=some (iV n12)∧∃ a13 l13 c13,aa H1 ((A0 H.size).add 2)=some (lV a13 l13 c13)∧cond (decide (((s8.size+s9.size:Nat):Int) > IntKind.i64.max)) False (cS 302 #[.agg #[pV p11,iV n12,lV a13 l13 c13],sV (s8++s9)] (fun v14 H2=>∃ n15 n16,v14=.tuple #[iV n15,iV n16]∧Q (.tuple #[iV n15,iV n16]) H2) H1)))) C1
theorem yS {p1:Option Addr}{n2:Int}{a3:Option Addr}{l3:Nat}{c3:Nat} (h:Hw p1 n2 a3 l3 c3 Q H):ac PP 211 #[.agg #[.pointer p1,.int .i64 n2,.slice a3 l3 c3]] Q H :=
 okF Tryz.func211 rfl h
abbrev DE:Nat:=212
def HN (p1:Option Addr) (n2:Int) (a3:Option Addr) (l3:Nat) (c3:Nat) (Q:QT) (H:ae):Prop :=
 shH (H.push (.cells #[pV p1,iV n2,lV a3 l3 c3] 138)) fun C1=>∃ p4,aa C1 (A0 H.size)=some (pV p4)∧∃ n5,aa C1 ((A0 H.size).add 1)=some (iV n5)∧∃ a6 l6 c6,aa C1 ((A0 H.size).add 2)=some (lV a6 l6 c6)∧cS 306 #[.agg #[pV p4,iV n5,lV a6 l6 c6]] (fun v7 H1=>∃ s8 s9 b10,v7=.tuple #[sV s8,sV s9,.bool b10]∧cond b10 (cS 286 #[.bool (cp s8 s9)] (fun v11 H2=>∃ n12 n13,v11=.tuple #[iV n12,iV n13]∧Q (.tuple #[iV n12,iV n13]) H2) H1) (cS 286 #[.bool false] (fun v14 H3=>∃ n15 n16,v14=.tuple #[iV n15,iV n16]∧Q (.tuple #[iV n15,iV n16]) H3) H1)) C1
theorem zZ {p1:Option Addr}{n2:Int}{a3:Option Addr}{l3:Nat}{c3:Nat} (h:HN p1 n2 a3 l3 c3 Q H):ac PP 212 #[.agg #[.pointer p1,.int .i64 n2,.slice a3 l3 c3]] Q H :=
 okF Tryz.func212 rfl h
abbrev DN:Nat:=213
def Ky (p1:Option Addr) (n2:Int) (a3:Option Addr) (l3:Nat) (c3:Nat) (Q:QT) (H:ae):Prop :=
 shH (H.push (.cells #[pV p1,iV n2,lV a3 l3 c3] 138)) fun C1=>∃ p4,aa C1 (A0 H.size)=some (pV p4)∧∃ n5,aa C1 ((A0 H.size).add 1)=some (iV n5)∧∃ a6 l6 c6,aa C1 ((A0 H.size).add 2)=some (lV a6 l6 c6)∧cS 306 #[.agg #[pV p4,iV n5,lV a6 l6 c6]] (fun v7 H1=>∃ s8 s9 b10,v7=.tuple #[sV s8,sV s9,.bool b10]∧cond (!b10) (Q (.tuple #[iV 0,iV 170]) H1) (cS 286 #[.bool (Op.bytesLess (ByteArray.toList s8) (ByteArray.toList s9))] (fun v11 H2=>∃ n12 n13,v11=.tuple #[iV n12,iV n13]∧Q (.tuple #[iV n12,iV n13]) H2) H1)) C1
theorem xE {p1:Option Addr}{n2:Int}{a3:Option Addr}{l3:Nat}{c3:Nat} (h:Ky p1 n2 a3 l3 c3 Q H):ac PP 213 #[.agg #[.pointer p1,.int .i64 n2,.slice a3 l3 c3]] Q H :=
 okF Tryz.func213 rfl h
abbrev Bn:Nat:=214
def Gi (p1:Option Addr) (n2:Int) (a3:Option Addr) (l3:Nat) (c3:Nat) (Q:QT) (H:ae):Prop :=
 shH (H.push (.cells #[pV p1,iV n2,lV a3 l3 c3] 138)) fun C1=>∃ p4,aa C1 (A0 H.size)=some (pV p4)∧∃ n5,aa C1 ((A0 H.size).add 1)=some (iV n5)∧∃ a6 l6 c6,aa C1 ((A0 H.size).add 2)=some (lV a6 l6 c6)∧∃ n7,aa C1 ((A0 H.size).add 1)=some (iV n7)∧cS 303 #[.agg #[pV p4,iV n5,lV a6 l6 c6],iV n7] (fun v8 H1=>∃ s9,v8=sV s9∧cond (decide ((s9.size:Int)<1)) (Q (.tuple #[iV 0,iV 170]) H1) (cond (decide ((s9.size:Int) > 96)) (Q (.tuple #[iV 0,iV 170]) H1) (∃ p10,aa H1 (A0 H.size)=some (pV p10)∧cS 33 #[pV p10] (fun v11 H2=>∃ p12,v11=pV p12∧cS 145 #[pV p12,sV s9] (fun v13 H3=>∃ n14 n15,v13=.tuple #[iV n14,iV n15]∧cond (n15 != 0) (Q (.tuple #[iV 0,iV n15]) H3) (cS 146 #[iV n14] (fun v16 H4=>∃ n17 n18,v16=.tuple #[iV n17,iV n18]∧Q (.tuple #[iV n17,iV n18]) H4) H3)) H2) H1))) C1
theorem xO {p1:Option Addr}{n2:Int}{a3:Option Addr}{l3:Nat}{c3:Nat} (h:Gi p1 n2 a3 l3 c3 Q H):ac PP 214 #[.agg #[.pointer p1,.int .i64 n2,.slice a3 l3 c3]] Q H :=
 okF Tryz.func214 rfl h
abbrev Cx:Nat:=215
def Ij (p1:Option Addr) (n2:Int) (a3:Option Addr) (l3:Nat) (c3:Nat) (Q:QT) (H:ae):Prop :=
 shH (H.push (.cells #[pV p1,iV n2,lV a3 l3 c3] 138)) fun C1=>∃ p4,aa C1 (A0 H.size)=some (pV p4)∧∃ n5,aa C1 ((A0 H.size).add 1)=some (iV n5)∧∃ a6 l6 c6,aa C1 ((A0 H.size).add 2)=some (lV a6 l6 c6)∧∃ n7,aa C1 ((A0 H.size).add 1)=some (iV n7)∧cS 222 #[.agg #[pV p4,iV n5,lV a6 l6 c6],iV n7] (fun v8 H1=>∃ n9 n10,v8=.tuple #[iV n9,iV n10]∧∃ p11,aa H1 (A0 H.size)=some (pV p11)∧∃ n12,aa H1 ((A0 H.size).add 1)=some (iV n12)∧∃ a13 l13 c13,aa H1 ((A0 H.size).add 2)=some (lV a13 l13 c13)∧cS 288 #[.agg #[pV p11,iV n12,lV a13 l13 c13],iV n9] (fun v14 H2=>∃ n15 n16,v14=.tuple #[iV n15,iV n16]∧Q (.tuple #[iV n15,iV n16]) H2) H1) C1
theorem zc {p1:Option Addr}{n2:Int}{a3:Option Addr}{l3:Nat}{c3:Nat} (h:Ij p1 n2 a3 l3 c3 Q H):ac PP 215 #[.agg #[.pointer p1,.int .i64 n2,.slice a3 l3 c3]] Q H :=
 okF Tryz.func215 rfl h
abbrev Ea:Nat:=216
def Iw (p1:Option Addr) (n2:Int) (a3:Option Addr) (l3:Nat) (c3:Nat) (Q:QT) (H:ae):Prop :=
 ∃ n4,aa (H.push (.cells #[pV p1,iV n2,lV a3 l3 c3] 138)) ((A0 H.size).add 1)=some (iV n4)∧cS 89 #[iV n4] (fun v5 H1=>∃ n6 n7,v5=.tuple #[iV n6,iV n7]∧∃ p8,aa H1 (A0 H.size)=some (pV p8)∧cS 307 #[pV p8,iV n6] (fun v9 H2=>∃ n10 n11,v9=.tuple #[iV n10,iV n11]∧∃ J12:IT,(cond (n11 != 0) (Q (.tuple #[iV 0,iV 170]) H2) (cond (decide (n10<=14)) (cond (n6 != 4) (Q (.tuple #[iV 0,iV 170]) H2) (J12 [] H2)) (J12 [] H2)))∧∀ w13 H3,J12 w13 H3->∀ _g:Nat->Value,w13=[]∧∃ p14,aa H3 (A0 H.size)=some (pV p14)∧cS 308 #[pV p14,iV n6] (fun v15 H4=>∃ a16 l16 c16 n17,v15=.tuple #[lV a16 l16 c16,iV n17]∧cond (n17 != 0) (Q (.tuple #[iV 0,iV 170]) H4) (∃ p18,aa H4 (A0 H.size)=some (pV p18)∧∃ n19,aa H4 ((A0 H.size).add 1)=some (iV n19)∧cS 7 #[pV p18] (fun v20 H5=>∃ p21,v20=pV p21∧((aa H5 ((A0 H.size).add 1)=some (iV n19)∧True)∧True)∧cS 279 #[pV p21,iV n19,iV (l16:Int),iV 0] (fun v22 H6=>∃ n23 n24,v22=.tuple #[iV n23,iV n24]∧True∧Q (.tuple #[iV n23,iV n24]) H6) H5) H4)) H3) H1) (H.push (.cells #[pV p1,iV n2,lV a3 l3 c3] 138))
theorem Am {p1:Option Addr}{n2:Int}{a3:Option Addr}{l3:Nat}{c3:Nat} (h:Iw p1 n2 a3 l3 c3 Q H):ac PP 216 #[.agg #[.pointer p1,.int .i64 n2,.slice a3 l3 c3]] Q H :=
 aW good Tryz.func216 rfl (Ls:=fun | 1005=>some [] | _=>none) (by kernel_rfl) h
abbrev Ek:Nat:=217
def KR (p1:Option Addr) (n2:Int) (a3:Option Addr) (l3:Nat) (c3:Nat) (Q:QT) (H:ae):Prop :=
 ∃ n4,aa (H.push (.cells #[pV p1,iV n2,lV a3 l3 c3] 138)) ((A0 H.size).add 1)=some (iV n4)∧cS 89 #[iV n4] (fun v5 H1=>∃ n6 n7,v5=.tuple #[iV n6,iV n7]∧∃ a8 l8 c8,aa H1 ((A0 H.size).add 2)=some (lV a8 l8 c8)∧((0:Int)<=0∧0<(l8:Int))∧∃ q9,a8=some q9∧∃ n10,aa H1 (q9.add (Int.toNat 0*1))=some (iV n10)∧cS 274 #[iV n10] (fun v11 H2=>∃ n12 n13,v11=.tuple #[iV n12,iV n13]∧∃ J14:IT,(cond (n6 != 10) (cond (n6 != 11) (J14 [.bool true] H2) (cond (n13 != 0) (J14 [.bool true] H2) (cond (decide (n12<0)) (J14 [.bool true] H2) (J14 [.bool (decide (n12 > 8192))] H2)))) (cond (n13 != 0) (J14 [.bool true] H2) (cond (decide (n12<0)) (J14 [.bool true] H2) (J14 [.bool (decide (n12 > 8192))] H2))))∧∀ w15 H3,J14 w15 H3->∀ _g:Nat->Value,∃ b16,w15=[.bool b16]∧cond b16 (Q (.tuple #[iV 0,iV 170]) H3) (cond (n6 == 10) (∃ p17,aa H3 (A0 H.size)=some (pV p17)∧∃ n18,aa H3 ((A0 H.size).add 1)=some (iV n18)∧cS 7 #[pV p17] (fun v19 H4=>∃ p20,v19=pV p20∧((aa H4 ((A0 H.size).add 1)=some (iV n18)∧True)∧True)∧cS 279 #[pV p20,iV n18,iV n12,iV 1] (fun v21 H5=>∃ n22 n23,v21=.tuple #[iV n22,iV n23]∧True∧Q (.tuple #[iV n22,iV n23]) H5) H4) H3) (cond (n12 == 0) (cS 84 #[iV 18] (fun v24 H6=>∃ n25 n26,v24=.tuple #[iV n25,iV n26]∧Q (.tuple #[iV n25,iV n26]) H6) H3) (∃ p27,aa H3 (A0 H.size)=some (pV p27)∧∃ n28,aa H3 ((A0 H.size).add 1)=some (iV n28)∧cS 7 #[pV p27] (fun v29 H7=>∃ p30,v29=pV p30∧((aa H7 ((A0 H.size).add 1)=some (iV n28)∧True)∧True)∧cS 279 #[pV p30,iV n28,iV n12,iV 0] (fun v31 H8=>∃ n32 n33,v31=.tuple #[iV n32,iV n33]∧True∧Q (.tuple #[iV n32,iV n33]) H8) H7) H3)))) H1) (H.push (.cells #[pV p1,iV n2,lV a3 l3 c3] 138))
theorem x8 {p1:Option Addr}{n2:Int}{a3:Option Addr}{l3:Nat}{c3:Nat} (h:KR p1 n2 a3 l3 c3 Q H):ac PP 217 #[.agg #[.pointer p1,.int .i64 n2,.slice a3 l3 c3]] Q H :=
 aW good Tryz.func217 rfl (Ls:=fun | 1007=>some [(22,4)] | _=>none) (by kernel_rfl) h
abbrev BG:Nat:=218
def GJ (n1:Int) (Q:QT) (H:ae):Prop :=
 Q (.func (.func 309) #[] #[pV (some (A0 H.size))]) (H.push (.cells #[iV n1] 3))
theorem ym {n1:Int} (h:GJ n1 Q H):ac PP 218 #[.int .i64 n1] Q H :=
 okF Tryz.func218 rfl h
abbrev CY:Nat:=219
def GP  (Q:QT) (H:ae):Prop :=
 ac PP 218 #[iV 4] (fun v1 H1=>∃ f2,∃ g2:Array Value,∃ h2:Array Value,v1=.func (.func f2) g2 h2∧aK PP (Instr.mapUpdate 135 (.map (some H.size)) (sV (⟨#[110,117,109,65,114,103,115]⟩:ByteArray)) (.agg #[iV 0,.func (.func f2) g2 h2])) (fun _ H2=>aK PP (Instr.mapUpdate 135 (.map (some H.size)) (sV (⟨#[118,97,108,117,101]⟩:ByteArray)) (.agg #[iV 0,.nilFunc])) (fun _ H3=>∃(I3:IT) (μ3:MT),I3 [iV 1] H3∧∀ w4 H4,I3 w4 H4->∀ _g:Nat->Value,∃ n5,w4=[iV n5]∧cond (decide (n5<=8)) (cS 310 #[sV (⟨#[118,97,108,117,101,58]⟩:ByteArray),iV n5] (fun v6 H5=>∃ s7,v6=sV s7∧aK PP (Instr.mapUpdate 135 (.map (some H.size)) (sV s7) (.agg #[iV n5,.nilFunc])) (fun _ H6=>I3 [iV (wW (n5+1))] H6∧μ3 [iV (wW (n5+1))] H6<μ3 w4 H4) H5) H4) (Q (.map (some H.size)) H4)) H2) H1) (H.push (.map #[] 0))
theorem zA  (h:GP  Q H):ac PP 219 #[] Q H :=
 aW good Tryz.func219 rfl (Ls:=fun | 3=>some [(2,3)] | _=>none) (by kernel_rfl) h
abbrev EE:Nat:=222
def IZ (p1:Option Addr) (n2:Int) (a3:Option Addr) (l3:Nat) (c3:Nat) (n4:Int) (Q:QT) (H:ae):Prop :=
 ac PP 89 #[iV n4] (fun v5 H1=>∃ n6 n7,v5=.tuple #[iV n6,iV n7]∧cond (n7 != 0) (Q (.tuple #[iV 0,iV 0]) H1) (∃ p8,aa H1 (A0 H.size)=some (pV p8)∧cS 7 #[pV p8] (fun v9 H2=>∃ p10,v9=pV p10∧cS 44 #[pV p10] (fun v11 H3=>∃ p12,v11=pV p12∧cS 55 #[pV p12,iV n6] (fun v13 H4=>∃ n14 n15 n16,v13=.tuple #[iV n14,iV n15,iV n16]∧Q (.tuple #[iV n14,iV n15]) H4) H3) H2) H1)) (H.push (.cells #[pV p1,iV n2,lV a3 l3 c3] 138))
theorem AH {p1:Option Addr}{n2:Int}{a3:Option Addr}{l3:Nat}{c3:Nat}{n4:Int} (h:IZ p1 n2 a3 l3 c3 n4 Q H):ac PP 222 #[.agg #[.pointer p1,.int .i64 n2,.slice a3 l3 c3],.int .i64 n4] Q H :=
 okF Tryz.func222 rfl h
abbrev ER:Nat:=223
def FQ (p1:Option Addr) (n2:Int) (a3:Option Addr) (l3:Nat) (c3:Nat) (n4:Int) (n5:Int) (Q:QT) (H:ae):Prop :=
 ac PP 89 #[iV n4] (fun v6 H1=>∃ n7 n8,v6=.tuple #[iV n7,iV n8]∧∃ p9,aa H1 (A0 H.size)=some (pV p9)∧cS 7 #[pV p9] (fun v10 H2=>∃ p11,v10=pV p11∧cS 44 #[pV p11] (fun v12 H3=>∃ p13,v12=pV p13∧cS 57 #[pV p13,iV n7,iV n5] (fun v14 H4=>∃ n15 n16,v14=.tuple #[iV n15,iV n16]∧Q (iV n15) H4) H3) H2) H1) (H.push (.cells #[pV p1,iV n2,lV a3 l3 c3] 138))
theorem AR {p1:Option Addr}{n2:Int}{a3:Option Addr}{l3:Nat}{c3:Nat}{n4:Int}{n5:Int} (h:FQ p1 n2 a3 l3 c3 n4 n5 Q H):ac PP 223 #[.agg #[.pointer p1,.int .i64 n2,.slice a3 l3 c3],.int .i64 n4,.int .i64 n5] Q H :=
 okF Tryz.func223 rfl h
abbrev vo:Nat:=286
def Hm (b1:Bool) (Q:QT) (H:ae):Prop :=
 cond b1 (cS 84 #[iV 3] (fun v2 H1=>∃ n3 n4,v2=.tuple #[iV n3,iV n4]∧Q (.tuple #[iV n3,iV n4]) H1) H) (cS 84 #[iV 2] (fun v5 H2=>∃ n6 n7,v5=.tuple #[iV n6,iV n7]∧Q (.tuple #[iV n6,iV n7]) H2) H)
theorem yN {b1:Bool} (h:Hm b1 Q H):ac PP 286 #[.bool b1] Q H :=
 okF Tryz.func286 rfl h
abbrev Dz:Nat:=287
def HE (p1:Option Addr) (n2:Int) (a3:Option Addr) (l3:Nat) (c3:Nat) (Q:QT) (H:ae):Prop :=
 shH (H.push (.cells #[pV p1,iV n2,lV a3 l3 c3] 138)) fun C1=>∃ p4,aa C1 (A0 H.size)=some (pV p4)∧∃ n5,aa C1 ((A0 H.size).add 1)=some (iV n5)∧∃ a6 l6 c6,aa C1 ((A0 H.size).add 2)=some (lV a6 l6 c6)∧∃ n7,aa C1 ((A0 H.size).add 1)=some (iV n7)∧cS 289 #[.agg #[pV p4,iV n5,lV a6 l6 c6],iV n7] (fun v8 H1=>∃ b9,v8=.bool b9∧cond (!b9) (Q (iV 0) H1) (∃ p10,aa H1 (A0 H.size)=some (pV p10)∧∃ n11,aa H1 ((A0 H.size).add 1)=some (iV n11)∧∃ a12 l12 c12,aa H1 ((A0 H.size).add 2)=some (lV a12 l12 c12)∧∃ n13,aa H1 ((A0 H.size).add 1)=some (iV n13)∧cS 222 #[.agg #[pV p10,iV n11,lV a12 l12 c12],iV n13] (fun v14 H2=>∃ n15 n16,v14=.tuple #[iV n15,iV n16]∧Q (iV n15) H2) H1)) C1
theorem zT {p1:Option Addr}{n2:Int}{a3:Option Addr}{l3:Nat}{c3:Nat} (h:HE p1 n2 a3 l3 c3 Q H):ac PP 287 #[.agg #[.pointer p1,.int .i64 n2,.slice a3 l3 c3]] Q H :=
 okF Tryz.func287 rfl h
abbrev E9:Nat:=288
def Kt (p1:Option Addr) (n2:Int) (a3:Option Addr) (l3:Nat) (c3:Nat) (n4:Int) (Q:QT) (H:ae):Prop :=
 shH (H.push (.cells #[pV p1,iV n2,lV a3 l3 c3] 138)) fun C1=>∃ p5,aa C1 (A0 H.size)=some (pV p5)∧∃ n6,aa C1 ((A0 H.size).add 1)=some (iV n6)∧∃ a7 l7 c7,aa C1 ((A0 H.size).add 2)=some (lV a7 l7 c7)∧cS 304 #[.agg #[pV p5,iV n6,lV a7 l7 c7],iV n4] (fun v8 H1=>∃ n9 n10,v8=.tuple #[iV n9,iV n10]∧cond (n10 != 0) (Q (.tuple #[iV 0,iV n10]) H1) (∃ a11 l11 c11,aa H1 ((A0 H.size).add 2)=some (lV a11 l11 c11)∧cond (decide ((l11:Int)<2)) (∃ p12,aa H1 (A0 H.size)=some (pV p12)∧∃ n13,aa H1 ((A0 H.size).add 1)=some (iV n13)∧∃ a14 l14 c14,aa H1 ((A0 H.size).add 2)=some (lV a14 l14 c14)∧∃ n15,aa H1 ((A0 H.size).add 1)=some (iV n15)∧cS 223 #[.agg #[pV p12,iV n13,lV a14 l14 c14],iV n15,iV n9] (fun v16 H2=>∃ n17,v16=iV n17∧Q (.tuple #[iV n17,iV 0]) H2) H1) (∃ a18 l18 c18,aa H1 ((A0 H.size).add 2)=some (lV a18 l18 c18)∧((0:Int)<=1∧1<(l18:Int))∧∃ q19,a18=some q19∧∃ n20,aa H1 (q19.add (Int.toNat 1*1))=some (iV n20)∧∃ p21,aa H1 (A0 H.size)=some (pV p21)∧∃ n22,aa H1 ((A0 H.size).add 1)=some (iV n22)∧∃ a23 l23 c23,aa H1 ((A0 H.size).add 2)=some (lV a23 l23 c23)∧∃ n24,aa H1 ((A0 H.size).add 1)=some (iV n24)∧∃ a25 l25 c25,aa H1 ((A0 H.size).add 2)=some (lV a25 l25 c25)∧((0:Int)<=1∧1<(l25:Int))∧∃ q26,a25=some q26∧∃ n27,aa H1 (q26.add (Int.toNat 1*1))=some (iV n27)∧cS 305 #[.agg #[pV p21,iV n22,lV a23 l23 c23],iV n24,iV n9,iV n27] (fun v28 H3=>∃ n29,v28=iV n29∧((aa H3 (q19.add (Int.toNat 1*1))=some (iV n20)∧True)∧((aa H3 ((A0 H.size).add 2)=some (lV a18 l18 c18)∧True)∧True))∧Q (.tuple #[iV n20,iV n29]) H3) H1))) C1
theorem xz {p1:Option Addr}{n2:Int}{a3:Option Addr}{l3:Nat}{c3:Nat}{n4:Int} (h:Kt p1 n2 a3 l3 c3 n4 Q H):ac PP 288 #[.agg #[.pointer p1,.int .i64 n2,.slice a3 l3 c3],.int .i64 n4] Q H :=
 okF Tryz.func288 rfl h
abbrev xe:Nat:=289
def Gb (p1:Option Addr) (n2:Int) (a3:Option Addr) (l3:Nat) (c3:Nat) (n4:Int) (Q:QT) (H:ae):Prop :=
 shH (H.push (.cells #[pV p1,iV n2,lV a3 l3 c3] 138)) fun C1=>∃ p5,aa C1 (A0 H.size)=some (pV p5)∧∃ n6,aa C1 ((A0 H.size).add 1)=some (iV n6)∧∃ a7 l7 c7,aa C1 ((A0 H.size).add 2)=some (lV a7 l7 c7)∧cS 86 #[.agg #[pV p5,iV n6,lV a7 l7 c7],iV n4] (fun v8 H1=>∃ n9,v8=iV n9∧∃ p10,aa H1 (A0 H.size)=some (pV p10)∧cS 307 #[pV p10,iV n9] (fun v11 H2=>∃ n12 n13,v11=.tuple #[iV n12,iV n13]∧cond (n9 == 4) (Q (.bool true) H2) (cond (n13 == 0) (Q (.bool (decide (n12 > 14))) H2) (Q (.bool false) H2))) H1) C1
theorem xF {p1:Option Addr}{n2:Int}{a3:Option Addr}{l3:Nat}{c3:Nat}{n4:Int} (h:Gb p1 n2 a3 l3 c3 n4 Q H):ac PP 289 #[.agg #[.pointer p1,.int .i64 n2,.slice a3 l3 c3],.int .i64 n4] Q H :=
 okF Tryz.func289 rfl h
abbrev rc:Nat:=290
def HZ (p1:Option Addr) (n2:Int) (a3:Option Addr) (l3:Nat) (c3:Nat) (n4:Int) (n5:Int) (a6:Option Addr) (l6:Nat) (_c6:Nat) (Q:QT) (H:ae):Prop :=
 ac PP 84 #[iV n4] (fun v7 H1=>∃ n8 n9,v7=.tuple #[iV n8,iV n9]∧∃ p10,aa H1 (A0 H.size)=some (pV p10)∧cS 7 #[pV p10] (fun v11 H2=>∃ p12,v11=pV p12∧cS 279 #[pV p12,iV n8,iV (l6:Int),iV n5] (fun v13 H3=>∃ n14 n15,v13=.tuple #[iV n14,iV n15]∧cond (n15 != 0) (Q (.tuple #[iV 0,iV n15]) H3) (∃(I16:IT) (μ16:MT),I16 [iV 0] H3∧∀ w17 H4,I16 w17 H4->∀ _g:Nat->Value,∃ n18,w17=[iV n18]∧cond (decide (n18<(l6:Int))) (((0:Int)<=n18∧n18<(l6:Int))∧∃ q19,a6=some q19∧∃ n20,aa H4 (q19.add (Int.toNat n18*1))=some (iV n20)∧∃ p21,aa H4 (A0 H.size)=some (pV p21)∧∃ n22,aa H4 ((A0 H.size).add 1)=some (iV n22)∧∃ a23 l23 c23,aa H4 ((A0 H.size).add 2)=some (lV a23 l23 c23)∧cS 305 #[.agg #[pV p21,iV n22,lV a23 l23 c23],iV n14,iV n18,iV n20] (fun v24 H5=>∃ n25,v24=iV n25∧cond (n25 != 0) (Q (.tuple #[iV 0,iV n25]) H5) (I16 [iV (wW (n18+1))] H5∧μ16 [iV (wW (n18+1))] H5<μ16 w17 H4)) H4) (Q (.tuple #[iV n14,iV 0]) H4))) H2) H1) (H.push (.cells #[pV p1,iV n2,lV a3 l3 c3] 138))
theorem y9 {p1:Option Addr}{n2:Int}{a3:Option Addr}{l3:Nat}{c3:Nat}{n4:Int}{n5:Int}{a6:Option Addr}{l6:Nat}{c6:Nat} (h:HZ p1 n2 a3 l3 c3 n4 n5 a6 l6 c6 Q H):ac PP 290 #[.agg #[.pointer p1,.int .i64 n2,.slice a3 l3 c3],.int .i64 n4,.int .i64 n5,.slice a6 l6 c6] Q H :=
 aW good Tryz.func290 rfl (Ls:=fun | 6=>some [(38,3)] | _=>none) (by kernel_rfl) h
abbrev rF:Nat:=291
def Im (p1:Option Addr) (n2:Int) (a3:Option Addr) (l3:Nat) (c3:Nat) (n4:Int) (Q:QT) (H:ae):Prop :=
 shH (H.push (.cells #[pV p1,iV n2,lV a3 l3 c3] 138)) fun C1=>∃ p5,aa C1 (A0 H.size)=some (pV p5)∧∃ n6,aa C1 ((A0 H.size).add 1)=some (iV n6)∧∃ a7 l7 c7,aa C1 ((A0 H.size).add 2)=some (lV a7 l7 c7)∧cS 222 #[.agg #[pV p5,iV n6,lV a7 l7 c7],iV n4] (fun v8 H1=>∃ n9 n10,v8=.tuple #[iV n9,iV n10]∧aK PP (Instr.makeSlice 30 (iV n9) (iV n9)) (fun v11 H2=>∃ a12 l12 c12,v11=lV a12 l12 c12∧∃(I13:IT) (μ13:MT),I13 [iV 0] H2∧∀ w14 H3,I13 w14 H3->∀ _g:Nat->Value,∃ n15,w14=[iV n15]∧cond (decide (n15<(l12:Int))) (∃ p16,aa H3 (A0 H.size)=some (pV p16)∧∃ n17,aa H3 ((A0 H.size).add 1)=some (iV n17)∧∃ a18 l18 c18,aa H3 ((A0 H.size).add 2)=some (lV a18 l18 c18)∧cS 223 #[.agg #[pV p16,iV n17,lV a18 l18 c18],iV n4,iV n15] (fun v19 H4=>∃ n20,v19=iV n20∧((0:Int)<=n15∧n15<(l12:Int))∧∃ q21,a12=some q21∧Wr H4 (q21.add (Int.toNat n15*1))∧I13 [iV (wW (n15+1))] (av H4 (q21.add (Int.toNat n15*1)) (iV n20))∧μ13 [iV (wW (n15+1))] (av H4 (q21.add (Int.toNat n15*1)) (iV n20))<μ13 w14 H3) H3) (Q (lV a12 l12 c12) H3)) H1) C1
theorem Ag {p1:Option Addr}{n2:Int}{a3:Option Addr}{l3:Nat}{c3:Nat}{n4:Int} (h:Im p1 n2 a3 l3 c3 n4 Q H):ac PP 291 #[.agg #[.pointer p1,.int .i64 n2,.slice a3 l3 c3],.int .i64 n4] Q H :=
 aW good Tryz.func291 rfl (Ls:=fun | 4=>some [(19,3)] | _=>none) (by kernel_rfl) h
abbrev Ec:Nat:=292
def KL (p1:Option Addr) (n2:Int) (a3:Option Addr) (l3:Nat) (c3:Nat) (Q:QT) (H:ae):Prop :=
 ∃ n4,aa (H.push (.cells #[pV p1,iV n2,lV a3 l3 c3] 138)) ((A0 H.size).add 1)=some (iV n4)∧cS 286 #[.bool (n4 == 8)] (fun v5 H1=>∃ n6 n7,v5=.tuple #[iV n6,iV n7]∧Q (.tuple #[iV n6,iV n7]) H1) (H.push (.cells #[pV p1,iV n2,lV a3 l3 c3] 138))
theorem xV {p1:Option Addr}{n2:Int}{a3:Option Addr}{l3:Nat}{c3:Nat} (h:KL p1 n2 a3 l3 c3 Q H):ac PP 292 #[.agg #[.pointer p1,.int .i64 n2,.slice a3 l3 c3]] Q H :=
 okF Tryz.func292 rfl h
abbrev Bz:Nat:=293
def GA (p1:Option Addr) (n2:Int) (a3:Option Addr) (l3:Nat) (c3:Nat) (Q:QT) (H:ae):Prop :=
 shH (H.push (.cells #[pV p1,iV n2,lV a3 l3 c3] 138)) fun C1=>∃ a4 l4 c4,aa C1 ((A0 H.size).add 2)=some (lV a4 l4 c4)∧((0:Int)<=0∧0<(l4:Int))∧∃ q5,a4=some q5∧∃ n6,aa C1 (q5.add (Int.toNat 0*1))=some (iV n6)∧cS 351 #[iV n6] (fun v7 H1=>∃ b8 n9,v7=.tuple #[.bool b8,iV n9]∧cond (n9 != 0) (Q (.tuple #[iV 0,iV n9]) H1) (cond b8 (∃ n10,aa H1 ((A0 H.size).add 1)=some (iV n10)∧cS 286 #[.bool (n10 == 12)] (fun v11 H2=>∃ n12 n13,v11=.tuple #[iV n12,iV n13]∧Q (.tuple #[iV n12,iV n13]) H2) H1) (cS 286 #[.bool false] (fun v14 H3=>∃ n15 n16,v14=.tuple #[iV n15,iV n16]∧Q (.tuple #[iV n15,iV n16]) H3) H1))) C1
theorem yc {p1:Option Addr}{n2:Int}{a3:Option Addr}{l3:Nat}{c3:Nat} (h:GA p1 n2 a3 l3 c3 Q H):ac PP 293 #[.agg #[.pointer p1,.int .i64 n2,.slice a3 l3 c3]] Q H :=
 okF Tryz.func293 rfl h
abbrev CQ:Nat:=294
def IH (p1:Option Addr) (n2:Int) (a3:Option Addr) (l3:Nat) (c3:Nat) (Q:QT) (H:ae):Prop :=
 shH (H.push (.cells #[pV p1,iV n2,lV a3 l3 c3] 138)) fun C1=>∃ a4 l4 c4,aa C1 ((A0 H.size).add 2)=some (lV a4 l4 c4)∧((0:Int)<=0∧0<(l4:Int))∧∃ q5,a4=some q5∧∃ n6,aa C1 (q5.add (Int.toNat 0*1))=some (iV n6)∧cS 351 #[iV n6] (fun v7 H1=>∃ b8 n9,v7=.tuple #[.bool b8,iV n9]∧cond (n9 != 0) (Q (.tuple #[iV 0,iV n9]) H1) (cond b8 (cS 286 #[.bool true] (fun v10 H2=>∃ n11 n12,v10=.tuple #[iV n11,iV n12]∧Q (.tuple #[iV n11,iV n12]) H2) H1) (∃ n13,aa H1 ((A0 H.size).add 1)=some (iV n13)∧cS 286 #[.bool (n13 == 12)] (fun v14 H3=>∃ n15 n16,v14=.tuple #[iV n15,iV n16]∧Q (.tuple #[iV n15,iV n16]) H3) H1))) C1
theorem zr {p1:Option Addr}{n2:Int}{a3:Option Addr}{l3:Nat}{c3:Nat} (h:IH p1 n2 a3 l3 c3 Q H):ac PP 294 #[.agg #[.pointer p1,.int .i64 n2,.slice a3 l3 c3]] Q H :=
 okF Tryz.func294 rfl h
abbrev rL:Nat:=295
def IR (p1:Option Addr) (n2:Int) (a3:Option Addr) (l3:Nat) (c3:Nat) (q_0:Addr) (Q:QT) (H:ae):Prop :=
 shH (H.push (.cells #[pV p1,iV n2,lV a3 l3 c3] 138)) fun C1=>∃ p4,aa C1 (A0 H.size)=some (pV p4)∧∃ n5,aa C1 ((A0 H.size).add 1)=some (iV n5)∧∃ a6 l6 c6,aa C1 ((A0 H.size).add 2)=some (lV a6 l6 c6)∧cS 296 #[.agg #[pV p4,iV n5,lV a6 l6 c6]] (fun v7 H1=>∃ n8 n9 n10,v7=.tuple #[iV n8,iV n9,iV n10]∧cond (n10 != 0) (Q (.tuple #[iV 0,iV n10]) H1) (((∃ f11,∃ g11:Array Value,∃ h11:Array Value,aa H1 q_0=some (.func (.func f11) g11 h11)∧ac PP f11 ((g11++#[iV n8,iV n9])++h11) (fun v12 H2=>∃ n13 n14,v12=.tuple #[iV n13,iV n14]∧cond (n14 != 0) (Q (.tuple #[iV 0,iV n14]) H2) (cS 268 #[iV n13] (fun v15 H3=>∃ n16 n17,v15=.tuple #[iV n16,iV n17]∧Q (.tuple #[iV n16,iV n17]) H3) H2)) H1)∨(aa H1 q_0=some (.nilFunc)∧False)))) C1
theorem AB {p1:Option Addr}{n2:Int}{a3:Option Addr}{l3:Nat}{c3:Nat}{q_0:Addr} (h:IR p1 n2 a3 l3 c3 q_0 Q H):ac PP 295 #[.agg #[.pointer p1,.int .i64 n2,.slice a3 l3 c3],.pointer (some q_0)] Q H :=
 okF Tryz.func295 rfl h
abbrev EG:Nat:=296
def FG (p1:Option Addr) (n2:Int) (a3:Option Addr) (l3:Nat) (c3:Nat) (Q:QT) (H:ae):Prop :=
 ∃ n4,aa (H.push (.cells #[pV p1,iV n2,lV a3 l3 c3] 138)) ((A0 H.size).add 1)=some (iV n4)∧cS 274 #[iV n4] (fun v5 H1=>∃ n6 n7,v5=.tuple #[iV n6,iV n7]∧∃ a8 l8 c8,aa H1 ((A0 H.size).add 2)=some (lV a8 l8 c8)∧((0:Int)<=0∧0<(l8:Int))∧∃ q9,a8=some q9∧∃ n10,aa H1 (q9.add (Int.toNat 0*1))=some (iV n10)∧cS 274 #[iV n10] (fun v11 H2=>∃ n12 n13,v11=.tuple #[iV n12,iV n13]∧cond (n13 != 0) (Q (.tuple #[iV 0,iV 0,iV 170]) H2) (Q (.tuple #[iV n6,iV n12,iV 0]) H2)) H1) (H.push (.cells #[pV p1,iV n2,lV a3 l3 c3] 138))
theorem yz {p1:Option Addr}{n2:Int}{a3:Option Addr}{l3:Nat}{c3:Nat} (h:FG p1 n2 a3 l3 c3 Q H):ac PP 296 #[.agg #[.pointer p1,.int .i64 n2,.slice a3 l3 c3]] Q H :=
 okF Tryz.func296 rfl h
abbrev vk:Nat:=299
def Hf (p1:Option Addr) (n2:Int) (a3:Option Addr) (l3:Nat) (c3:Nat) (q_0:Addr) (Q:QT) (H:ae):Prop :=
 shH (H.push (.cells #[pV p1,iV n2,lV a3 l3 c3] 138)) fun C1=>∃ p4,aa C1 (A0 H.size)=some (pV p4)∧∃ n5,aa C1 ((A0 H.size).add 1)=some (iV n5)∧∃ a6 l6 c6,aa C1 ((A0 H.size).add 2)=some (lV a6 l6 c6)∧cS 296 #[.agg #[pV p4,iV n5,lV a6 l6 c6]] (fun v7 H1=>∃ n8 n9 n10,v7=.tuple #[iV n8,iV n9,iV n10]∧cond (n10 != 0) (Q (.tuple #[iV 0,iV n10]) H1) (((∃ f11,∃ g11:Array Value,∃ h11:Array Value,aa H1 q_0=some (.func (.func f11) g11 h11)∧ac PP f11 ((g11++#[iV n8,iV n9])++h11) (fun v12 H2=>∃ b13,v12=.bool b13∧cS 286 #[.bool b13] (fun v14 H3=>∃ n15 n16,v14=.tuple #[iV n15,iV n16]∧Q (.tuple #[iV n15,iV n16]) H3) H2) H1)∨(aa H1 q_0=some (.nilFunc)∧False)))) C1
theorem yG {p1:Option Addr}{n2:Int}{a3:Option Addr}{l3:Nat}{c3:Nat}{q_0:Addr} (h:Hf p1 n2 a3 l3 c3 q_0 Q H):ac PP 299 #[.agg #[.pointer p1,.int .i64 n2,.slice a3 l3 c3],.pointer (some q_0)] Q H :=
 okF Tryz.func299 rfl h
abbrev Ds:Nat:=300
def Hr (p1:Option Addr) (n2:Int) (a3:Option Addr) (l3:Nat) (c3:Nat) (Q:QT) (H:ae):Prop :=
 ∃ n4,aa (H.push (.cells #[pV p1,iV n2,lV a3 l3 c3] 138)) ((A0 H.size).add 1)=some (iV n4)∧cS 274 #[iV n4] (fun v5 H1=>∃ n6 n7,v5=.tuple #[iV n6,iV n7]∧Q (iV n6) H1) (H.push (.cells #[pV p1,iV n2,lV a3 l3 c3] 138))
theorem zO {p1:Option Addr}{n2:Int}{a3:Option Addr}{l3:Nat}{c3:Nat} (h:Hr p1 n2 a3 l3 c3 Q H):ac PP 300 #[.agg #[.pointer p1,.int .i64 n2,.slice a3 l3 c3]] Q H :=
 okF Tryz.func300 rfl h
abbrev E1:Nat:=302
def Ko (p1:Option Addr) (n2:Int) (a3:Option Addr) (l3:Nat) (c3:Nat) (s4:ByteArray) (Q:QT) (H:ae):Prop :=
 aK PP (Instr.makeSlice 30 (iV (s4.size:Int)) (iV (s4.size:Int))) (fun v5 H1=>∃ a6 l6 c6,v5=lV a6 l6 c6∧∃(I7:IT) (μ7:MT),I7 [iV 0] H1∧∀ w8 H2,I7 w8 H2->∀ _g:Nat->Value,∃ n9,w8=[iV n9]∧cond (decide (n9<(s4.size:Int))) (∃ u10:UInt8,((0:Int)<=n9∧s4[Int.toNat n9]?=some u10)∧((0:Int)<=n9∧n9<(l6:Int))∧∃ q11,shH (av H2 (q11.add (Int.toNat n9*1)) (iV (wW (u10.toNat:Int)))) fun C1=>a6=some q11∧Wr H2 (q11.add (Int.toNat n9*1))∧I7 [iV (wW (n9+1))] C1∧μ7 [iV (wW (n9+1))] C1<μ7 w8 H2) (∃ p12,aa H2 (A0 H.size)=some (pV p12)∧∃ n13,aa H2 ((A0 H.size).add 1)=some (iV n13)∧∃ a14 l14 c14,aa H2 ((A0 H.size).add 2)=some (lV a14 l14 c14)∧cS 290 #[.agg #[pV p12,iV n13,lV a14 l14 c14],iV 10,iV 1,lV a6 l6 c6] (fun v15 H3=>∃ n16 n17,v15=.tuple #[iV n16,iV n17]∧Q (.tuple #[iV n16,iV n17]) H3) H2)) (H.push (.cells #[pV p1,iV n2,lV a3 l3 c3] 138))
theorem xr {p1:Option Addr}{n2:Int}{a3:Option Addr}{l3:Nat}{c3:Nat}{s4:ByteArray} (h:Ko p1 n2 a3 l3 c3 s4 Q H):ac PP 302 #[.agg #[.pointer p1,.int .i64 n2,.slice a3 l3 c3],.string s4] Q H :=
 aW good Tryz.func302 rfl (Ls:=fun | 3=>some [(13,3)] | _=>none) (by kernel_rfl) h
abbrev xc:Nat:=303
def BY (p1:Option Addr) (n2:Int) (a3:Option Addr) (l3:Nat) (c3:Nat) (n4:Int) (Q:QT) (H:ae):Prop :=
 ac PP 336 #[iV n4] (fun v5 H1=>shH (H1.push (.cells #[pV none,lV none 0 0] 295)) fun C1=>∃ n6 n7,v5=.tuple #[iV n6,iV n7]∧cond (n7 == 0) (∃ p8,aa H1 (A0 H.size)=some (pV p8)∧cS 33 #[pV p8] (fun v9 H2=>∃ p10,v9=pV p10∧cS 337 #[pV p10,iV n6] (fun v11 H3=>∃ s12 n13,v11=.tuple #[sV s12,iV n13]∧Q (sV s12) H3) H2) H1) (∃ p14,aa C1 (A0 H.size)=some (pV p14)∧∃ n15,aa C1 ((A0 H.size).add 1)=some (iV n15)∧∃ a16 l16 c16,aa C1 ((A0 H.size).add 2)=some (lV a16 l16 c16)∧cS 291 #[.agg #[pV p14,iV n15,lV a16 l16 c16],iV n4] (fun v17 H4=>∃ a18 l18 c18,v17=lV a18 l18 c18∧∃(I19:IT) (μ19:MT),I19 [iV 0] H4∧∀ w20 H5,I19 w20 H5->∀ _g:Nat->Value,∃ n21,w20=[iV n21]∧cond (decide (n21<(l18:Int))) (((0:Int)<=n21∧n21<(l18:Int))∧∃ q22,a18=some q22∧∃ n23,aa H5 (q22.add (Int.toNat n21*1))=some (iV n23)∧cS 354 #[pV (some (A0 H1.size)),.int .u8 (IntKind.wrap .u8 n23)] (fun v24 H6=>∃ v25:Value,v24=v25∧I19 [iV (wW (n21+1))] H6∧μ19 [iV (wW (n21+1))] H6<μ19 w20 H5) H5) (cS 355 #[pV (some (A0 H1.size))] (fun v26 H7=>∃ s27,v26=sV s27∧Q (sV s27) H7) H5)) C1)) (H.push (.cells #[pV p1,iV n2,lV a3 l3 c3] 138))
theorem r0 {p1:Option Addr}{n2:Int}{a3:Option Addr}{l3:Nat}{c3:Nat}{n4:Int} (h:BY p1 n2 a3 l3 c3 n4 Q H):ac PP 303 #[.agg #[.pointer p1,.int .i64 n2,.slice a3 l3 c3],.int .i64 n4] Q H :=
 aW good Tryz.func303 rfl (Ls:=fun | 7=>some [(32,3)] | _=>none) (by kernel_rfl) h
abbrev Co:Nat:=304
def HR (p1:Option Addr) (n2:Int) (a3:Option Addr) (l3:Nat) (c3:Nat) (n4:Int) (Q:QT) (H:ae):Prop :=
 shH (H.push (.cells #[pV p1,iV n2,lV a3 l3 c3] 138)) fun C1=>∃ a5 l5 c5,aa C1 ((A0 H.size).add 2)=some (lV a5 l5 c5)∧((0:Int)<=0∧0<(l5:Int))∧∃ q6,a5=some q6∧∃ n7,aa C1 (q6.add (Int.toNat 0*1))=some (iV n7)∧cS 274 #[iV n7] (fun v8 H1=>∃ n9 n10,v8=.tuple #[iV n9,iV n10]∧cond (n10 != 0) (Q (.tuple #[iV 0,iV 170]) H1) (cond (decide (n9<1)) (Q (.tuple #[iV 0,iV 171]) H1) (cond (decide (n9 > n4)) (Q (.tuple #[iV 0,iV 171]) H1) (Q (.tuple #[iV (wW (n9-1)),iV 0]) H1)))) C1
theorem yZ {p1:Option Addr}{n2:Int}{a3:Option Addr}{l3:Nat}{c3:Nat}{n4:Int} (h:HR p1 n2 a3 l3 c3 n4 Q H):ac PP 304 #[.agg #[.pointer p1,.int .i64 n2,.slice a3 l3 c3],.int .i64 n4] Q H :=
 okF Tryz.func304 rfl h
abbrev wj:Nat:=305
def Ic (p1:Option Addr) (n2:Int) (a3:Option Addr) (l3:Nat) (c3:Nat) (n4:Int) (n5:Int) (n6:Int) (Q:QT) (H:ae):Prop :=
 ac PP 89 #[iV n4] (fun v7 H1=>∃ n8 n9,v7=.tuple #[iV n8,iV n9]∧∃ p10,aa H1 (A0 H.size)=some (pV p10)∧cS 7 #[pV p10] (fun v11 H2=>∃ p12,v11=pV p12∧cS 44 #[pV p12] (fun v13 H3=>∃ p14,v13=pV p14∧cS 148 #[pV p14,iV n8,iV n5,iV n6] (fun v15 H4=>∃ n16,v15=iV n16∧Q (iV n16) H4) H3) H2) H1) (H.push (.cells #[pV p1,iV n2,lV a3 l3 c3] 138))
theorem Ac {p1:Option Addr}{n2:Int}{a3:Option Addr}{l3:Nat}{c3:Nat}{n4:Int}{n5:Int}{n6:Int} (h:Ic p1 n2 a3 l3 c3 n4 n5 n6 Q H):ac PP 305 #[.agg #[.pointer p1,.int .i64 n2,.slice a3 l3 c3],.int .i64 n4,.int .i64 n5,.int .i64 n6] Q H :=
 okF Tryz.func305 rfl h
abbrev uT:Nat:=306
def E5 (p1:Option Addr) (n2:Int) (a3:Option Addr) (l3:Nat) (c3:Nat) (Q:QT) (H:ae):Prop :=
 shH (H.push (.cells #[pV p1,iV n2,lV a3 l3 c3] 138)) fun C1=>∃ p4,aa C1 (A0 H.size)=some (pV p4)∧∃ n5,aa C1 ((A0 H.size).add 1)=some (iV n5)∧∃ a6 l6 c6,aa C1 ((A0 H.size).add 2)=some (lV a6 l6 c6)∧∃ a7 l7 c7,aa C1 ((A0 H.size).add 2)=some (lV a7 l7 c7)∧((0:Int)<=0∧0<(l7:Int))∧∃ q8,a7=some q8∧∃ n9,aa C1 (q8.add (Int.toNat 0*1))=some (iV n9)∧cS 86 #[.agg #[pV p4,iV n5,lV a6 l6 c6],iV n9] (fun v10 H1=>∃ n11,v10=iV n11∧True∧cond (n11 != 10) (Q (.tuple #[sV (⟨#[]⟩:ByteArray),sV (⟨#[]⟩:ByteArray),.bool false]) H1) (∃ p12,aa H1 (A0 H.size)=some (pV p12)∧∃ n13,aa H1 ((A0 H.size).add 1)=some (iV n13)∧∃ a14 l14 c14,aa H1 ((A0 H.size).add 2)=some (lV a14 l14 c14)∧∃ n15,aa H1 ((A0 H.size).add 1)=some (iV n15)∧∃ p16,aa H1 (A0 H.size)=some (pV p16)∧∃ n17,aa H1 ((A0 H.size).add 1)=some (iV n17)∧∃ a18 l18 c18,aa H1 ((A0 H.size).add 2)=some (lV a18 l18 c18)∧∃ a19 l19 c19,aa H1 ((A0 H.size).add 2)=some (lV a19 l19 c19)∧((0:Int)<=0∧0<(l19:Int))∧∃ q20,a19=some q20∧∃ n21,aa H1 (q20.add (Int.toNat 0*1))=some (iV n21)∧cS 303 #[.agg #[pV p12,iV n13,lV a14 l14 c14],iV n15] (fun v22 H2=>∃ s23,v22=sV s23∧((aa H2 (q20.add (Int.toNat 0*1))=some (iV n21)∧True)∧((aa H2 ((A0 H.size).add 2)=some (lV a19 l19 c19)∧True)∧((aa H2 (A0 H.size)=some (pV p16)∧(aa H2 ((A0 H.size).add 1)=some (iV n17)∧(aa H2 ((A0 H.size).add 2)=some (lV a18 l18 c18)∧True)))∧True)))∧cS 303 #[.agg #[pV p16,iV n17,lV a18 l18 c18],iV n21] (fun v24 H3=>∃ s25,v24=sV s25∧True∧Q (.tuple #[sV s23,sV s25,.bool true]) H3) H2) H1)) C1
theorem sa {p1:Option Addr}{n2:Int}{a3:Option Addr}{l3:Nat}{c3:Nat} (h:E5 p1 n2 a3 l3 c3 Q H):ac PP 306 #[.agg #[.pointer p1,.int .i64 n2,.slice a3 l3 c3]] Q H :=
 okF Tryz.func306 rfl h
abbrev Bu:Nat:=309
def Gp (p1:Option Addr) (n2:Int) (a3:Option Addr) (l3:Nat) (c3:Nat) (q_0:Addr) (Q:QT) (H:ae):Prop :=
 shH (H.push (.cells #[pV p1,iV n2,lV a3 l3 c3] 138)) fun C1=>∃ p4,aa C1 (A0 H.size)=some (pV p4)∧∃ n5,aa C1 ((A0 H.size).add 1)=some (iV n5)∧∃ a6 l6 c6,aa C1 ((A0 H.size).add 2)=some (lV a6 l6 c6)∧∃ n7,aa C1 ((A0 H.size).add 1)=some (iV n7)∧∃ n8,aa C1 q_0=some (iV n8)∧cS 223 #[.agg #[pV p4,iV n5,lV a6 l6 c6],iV n7,iV n8] (fun v9 H1=>∃ n10,v9=iV n10∧Q (.tuple #[iV n10,iV 0]) H1) C1
theorem xW {p1:Option Addr}{n2:Int}{a3:Option Addr}{l3:Nat}{c3:Nat}{q_0:Addr} (h:Gp p1 n2 a3 l3 c3 q_0 Q H):ac PP 309 #[.agg #[.pointer p1,.int .i64 n2,.slice a3 l3 c3],.pointer (some q_0)] Q H :=
 okF Tryz.func309 rfl h
abbrev CJ:Nat:=351
def Iy (n1:Int) (Q:QT) (H:ae):Prop :=
 cond (n1 == 12) (Q (.tuple #[.bool true,iV 0]) H) (cond (n1 == 8) (Q (.tuple #[.bool false,iV 0]) H) (Q (.tuple #[.bool false,iV 170]) H))
theorem zl {n1:Int} (h:Iy n1 Q H):ac PP 351 #[.int .i64 n1] Q H :=
 okF Tryz.func351 rfl h
end Go.Proofs.YtgjfejoohojokaaGreatDoor
namespace Go.Proofs.YtgjfejoohojokaaGreatDoor
open Kw
variable {Q:QT}{H:ae}
abbrev HV:Nat:=45
def L4 (p1:Option Addr) (n2:Int) (Q:QT) (H:ae):Prop :=
 ac PP 109 #[pV p1] (fun v3 H1=>∃ b4,v3=.bool b4∧cond b4 (Q (iV 2) H1) (cS 110 #[iV n2,iV 1073741824] (fun v5 H2=>∃ b6,v5=.bool b6∧cond (!b6) (Q (iV 1) H2) (∃ q7,p1=some q7∧Wr H2 (q7.add 6)∧Q (iV 0) (av H2 (q7.add 6) (iV n2)))) H1)) H
theorem DU {p1:Option Addr}{n2:Int} (h:L4 p1 n2 Q H):ac PP 45 #[.pointer p1,.int .i64 n2] Q H :=
 okF Tryz.func45 rfl h
abbrev Bl:Nat:=54
def LG (p1:Option Addr) (n2:Int) (Q:QT) (H:ae):Prop :=
 ac PP 116 #[pV p1,iV n2] (fun v3 H1=>∃ n4 n5,v3=.tuple #[iV n4,iV n5]∧cond (n5 != 0) (Q (.tuple #[iV 0,iV n5]) H1) (∃ q6,p1=some q6∧∃ a7 l7 c7,aa H1 q6=some (lV a7 l7 c7)∧((0:Int)<=n4∧n4<(l7:Int))∧∃ q8,a7=some q8∧∃ n9,aa H1 (q8.add (Int.toNat n4*1))=some (iV n9)∧Q (.tuple #[iV n9,iV 0]) H1)) H
theorem Br {p1:Option Addr}{n2:Int} (h:LG p1 n2 Q H):ac PP 54 #[.pointer p1,.int .i64 n2] Q H :=
 okF Tryz.func54 rfl h
abbrev AY:Nat:=55
def LH (p1:Option Addr) (n2:Int) (Q:QT) (H:ae):Prop :=
 ac PP 116 #[pV p1,iV n2] (fun v3 H1=>∃ n4 n5,v3=.tuple #[iV n4,iV n5]∧cond (n5 != 0) (Q (.tuple #[iV 0,iV 0,iV n5]) H1) (cS 117 #[pV p1,iV n4] (fun v6 H2=>∃ n7 n8,v6=.tuple #[iV n7,iV n8]∧Q (.tuple #[iV n7,iV n8,iV 0]) H2) H1)) H
theorem CD {p1:Option Addr}{n2:Int} (h:LH p1 n2 Q H):ac PP 55 #[.pointer p1,.int .i64 n2] Q H :=
 okF Tryz.func55 rfl h
abbrev A2:Nat:=57
def LU (p1:Option Addr) (n2:Int) (n3:Int) (Q:QT) (H:ae):Prop :=
 ac PP 118 #[pV p1,iV n2,iV n3] (fun v4 H1=>∃ n5 n6 n7 n8,v4=.tuple #[iV n5,iV n6,iV n7,iV n8]∧cond (n8 != 0) (Q (.tuple #[iV 0,iV n8]) H1) (cond (n7 == 1) (∃ q9,p1=some q9∧∃ a10 l10 c10,aa H1 q9=some (lV a10 l10 c10)∧((0:Int)<=n5∧n5<(l10:Int))∧∃ q11,a10=some q11∧∃ n12,aa H1 (q11.add (Int.toNat n5*1))=some (iV n12)∧cond (decide (n6<0)) False (Q (.tuple #[iV (ja .i64 (fe .i64 n12 n6) 255),iV 0]) H1)) (∃ q13,p1=some q13∧∃ a14 l14 c14,aa H1 q13=some (lV a14 l14 c14)∧((0:Int)<=n5∧n5<(l14:Int))∧∃ q15,a14=some q15∧∃ n16,aa H1 (q15.add (Int.toNat n5*1))=some (iV n16)∧Q (.tuple #[iV n16,iV 0]) H1))) H
theorem El {p1:Option Addr}{n2:Int}{n3:Int} (h:LU p1 n2 n3 Q H):ac PP 57 #[.pointer p1,.int .i64 n2,.int .i64 n3] Q H :=
 okF Tryz.func57 rfl h
abbrev Bf:Nat:=60
def Ma (p1:Option Addr) (Q:QT) (H:ae):Prop :=
 cond (Option.isNone p1) (Q (iV 0) H) (∃ q2,p1=some q2∧∃ n3,aa H (q2.add 6)=some (iV n3)∧Q (iV n3) H)
theorem Es {p1:Option Addr} (h:Ma p1 Q H):ac PP 60 #[.pointer p1] Q H :=
 okF Tryz.func60 rfl h
abbrev uR:Nat:=72
def Md (p1:Option Addr) (n2:Int) (n3:Int) (n4:Int) (Q:QT) (H:ae):Prop :=
 ∃ J5:IT,(cS 109 #[pV p1] (fun v6 H1=>∃ b7,v6=.bool b7∧cond b7 (Q (.tuple #[iV 0,iV 2]) H1) (cS 140 #[iV n2] (fun v8 H2=>∃ b9,v8=.bool b9∧cond (!b9) (Q (.tuple #[iV 0,iV 1]) H2) (cond (n4 != 0) (cond (n4 != 1) (Q (.tuple #[iV 0,iV 1]) H2) (cond (decide (n3<0)) (Q (.tuple #[iV 0,iV 1]) H2) (cond (decide (n3 > 8192)) (Q (.tuple #[iV 0,iV 22]) H2) (∃ q10,p1=some q10∧∃ n11,aa H2 (q10.add 3)=some (iV n11)∧∃ q12,p1=some q12∧∃ a13 l13 c13,aa H2 (q12.add 1)=some (lV a13 l13 c13)∧cond (decide (n11 ≥ (wW ((l13:Int)-1)))) (Q (.tuple #[iV 0,iV 23]) H2) (∃ q14,p1=some q14∧∃ a15 l15 c15,aa H2 q14=some (lV a15 l15 c15)∧∃ q16,p1=some q16∧∃ n17,aa H2 (q16.add 4)=some (iV n17)∧cS 141 #[iV n3,iV n4] (fun v18 H3=>∃ n19,v18=iV n19∧((aa H3 (q16.add 4)=some (iV n17)∧True)∧((aa H3 q14=some (lV a15 l15 c15)∧True)∧True))∧cond (decide (n19 > (wW ((l15:Int)-n17)))) (Q (.tuple #[iV 0,iV 23]) H3) (∃ q20,p1=some q20∧∃ n21,aa H3 (q20.add 6)=some (iV n21)∧cond (n21 == 1) (∃ q22,p1=some q22∧Wr H3 (q22.add 6)∧Q (.tuple #[iV 0,iV 24]) (av H3 (q22.add 6) (iV 0))) (∃ q23,p1=some q23∧∃ n24,aa H3 (q23.add 6)=some (iV n24)∧cond (decide (n24 > 0)) (∃ q25,p1=some q25∧∃ n26,aa H3 (q25.add 6)=some (iV n26)∧∃ q27,p1=some q27∧Wr H3 (q27.add 6)∧J5 [] (av H3 (q27.add 6) (iV (wW (n26-1))))) (J5 [] H3)))) H2))))) (cond (decide (n3<0)) (Q (.tuple #[iV 0,iV 1]) H2) (cond (decide (n3 > 8192)) (Q (.tuple #[iV 0,iV 22]) H2) (∃ q28,p1=some q28∧∃ n29,aa H2 (q28.add 3)=some (iV n29)∧∃ q30,p1=some q30∧∃ a31 l31 c31,aa H2 (q30.add 1)=some (lV a31 l31 c31)∧cond (decide (n29 ≥ (wW ((l31:Int)-1)))) (Q (.tuple #[iV 0,iV 23]) H2) (∃ q32,p1=some q32∧∃ a33 l33 c33,aa H2 q32=some (lV a33 l33 c33)∧∃ q34,p1=some q34∧∃ n35,aa H2 (q34.add 4)=some (iV n35)∧cS 141 #[iV n3,iV n4] (fun v36 H4=>∃ n37,v36=iV n37∧((aa H4 (q34.add 4)=some (iV n35)∧True)∧((aa H4 q32=some (lV a33 l33 c33)∧True)∧True))∧cond (decide (n37 > (wW ((l33:Int)-n35)))) (Q (.tuple #[iV 0,iV 23]) H4) (∃ q38,p1=some q38∧∃ n39,aa H4 (q38.add 6)=some (iV n39)∧cond (n39 == 1) (∃ q40,p1=some q40∧Wr H4 (q40.add 6)∧Q (.tuple #[iV 0,iV 24]) (av H4 (q40.add 6) (iV 0))) (∃ q41,p1=some q41∧∃ n42,aa H4 (q41.add 6)=some (iV n42)∧cond (decide (n42 > 0)) (∃ q43,p1=some q43∧∃ n44,aa H4 (q43.add 6)=some (iV n44)∧∃ q45,p1=some q45∧Wr H4 (q45.add 6)∧J5 [] (av H4 (q45.add 6) (iV (wW (n44-1))))) (J5 [] H4)))) H2)))))) H1)) H)∧∀ w46 H5,J5 w46 H5->∀ _g:Nat->Value,w46=[]∧∃ q47,p1=some q47∧∃ n48,aa H5 (q47.add 5)=some (iV n48)∧∃(I49:IT) (μ49:MT),I49 [iV n48] H5∧∀ w50 H6,I49 w50 H6->∀ _g:Nat->Value,∃ n51,w50=[iV n51]∧∃ q52,p1=some q52∧∃ a53 l53 c53,aa H6 (q52.add 1)=some (lV a53 l53 c53)∧((0:Int)<=n51∧n51<(l53:Int))∧∃ q54,a53=some q54∧∃ n55,aa H6 (q54.add (Int.toNat n51*1))=some (iV n55)∧cond (decide (n55 ≥ 0)) (I49 [iV (wW (n51+1))] H6∧μ49 [iV (wW (n51+1))] H6<μ49 w50 H6) (∃ q56,shH (av H6 (q56.add 5) (iV (wW (n51+1)))) fun C1=>p1=some q56∧Wr H6 (q56.add 5)∧∃ q57,p1=some q57∧∃ a58 l58 c58,aa C1 q57=some (lV a58 l58 c58)∧∃ q59,p1=some q59∧∃ n60,aa C1 (q59.add 4)=some (iV n60)∧∃ q61,p1=some q61∧∃ n62,aa C1 (q61.add 4)=some (iV n62)∧cS 141 #[iV n3,iV n4] (fun v63 H7=>∃ n64,v63=iV n64∧((aa H7 (q61.add 4)=some (iV n62)∧True)∧((aa H7 (q59.add 4)=some (iV n60)∧True)∧((aa H7 q57=some (lV a58 l58 c58)∧True)∧True)))∧(((0:Int)<=(wW (n62+n64))∧(wW (n62+n64))<=(c58:Int))∧(0:Int)<=(wW (n60+2))∧(wW (n60+2))<=(wW (n62+n64)))∧aK PP (Builtin.clear_ #[30] 0 #[lV (gr a58 c58 (wW (n60+2)) 1) (Int.toNat (wW (n62+n64))-Int.toNat (wW (n60+2))) (c58-Int.toNat (wW (n60+2)))]) (fun v65 H8=>cond (n4 == 0) (∃(I66:IT) (μ66:MT),I66 [iV 0] H8∧∀ w67 H9,I66 w67 H9->∀ _g:Nat->Value,∃ n68,w67=[iV n68]∧cond (decide (n68<(((Int.toNat (wW (n62+n64))-Int.toNat (wW (n60+2))):Nat):Int))) (((0:Int)<=n68∧n68<(((Int.toNat (wW (n62+n64))-Int.toNat (wW (n60+2))):Nat):Int))∧∃ q69,(gr a58 c58 (wW (n60+2)) 1)=some q69∧Wr H9 (q69.add (Int.toNat n68*1))∧I66 [iV (wW (n68+1))] (av H9 (q69.add (Int.toNat n68*1)) (iV 4))∧μ66 [iV (wW (n68+1))] (av H9 (q69.add (Int.toNat n68*1)) (iV 4))<μ66 w67 H9) (cS 142 #[pV p1,iV n51,iV n2,iV n3,iV n4] (fun v70 H10=>∃ n71,v70=iV n71∧Q (.tuple #[iV n51,iV 0]) H10) H9)) (cS 142 #[pV p1,iV n51,iV n2,iV n3,iV n4] (fun v72 H11=>∃ n73,v72=iV n73∧Q (.tuple #[iV n51,iV 0]) H11) H8)) H7) C1)
theorem BP {p1:Option Addr}{n2:Int}{n3:Int}{n4:Int} (h:Md p1 n2 n3 n4 Q H):ac PP 72 #[.pointer p1,.int .i64 n2,.int .i64 n3,.int .i64 n4] Q H :=
 aW good Tryz.func72 rfl (Ls:=fun | 1014=>some [] | 15=>some [(10,3)] | 22=>some [(127,3)] | _=>none) (by kernel_rfl) h
abbrev A5:Nat:=83
def LO (p1:Option Addr) (a2:Option Addr) (l2:Nat) (_c2:Nat) (Q:QT) (H:ae):Prop :=
 ac PP 109 #[pV p1] (fun v3 H1=>∃ b4,v3=.bool b4∧cond b4 (Q (.tuple #[iV 0,iV 0,iV 2]) H1) (∃ q5,p1=some q5∧∃ a6 l6 c6,aa H1 (q5.add 1)=some (lV a6 l6 c6)∧aK PP (Instr.makeSlice 25 (iV (l6:Int)) (iV (l6:Int))) (fun v7 H2=>∃ a8 l8 c8,v7=lV a8 l8 c8∧∃(I9:IT) (μ9:MT),I9 [iV 0] H2∧∀ w10 H3,I9 w10 H3->∀ _g:Nat->Value,∃ n11,w10=[iV n11]∧cond (decide (n11<(l2:Int))) (((0:Int)<=n11∧n11<(l2:Int))∧∃ q12,a2=some q12∧∃ n13,aa H3 (q12.add (Int.toNat n11*1))=some (iV n13)∧cS 116 #[pV p1,iV n13] (fun v14 H4=>∃ n15 n16,v14=.tuple #[iV n15,iV n16]∧cond (n16 != 0) (Q (.tuple #[iV 0,iV 0,iV n16]) H4) (((0:Int)<=n13∧n13<(l8:Int))∧∃ q17,a8=some q17∧Wr H4 (q17.add (Int.toNat n13*1))∧I9 [iV (wW (n11+1))] (av H4 (q17.add (Int.toNat n13*1)) (iV 1))∧μ9 [iV (wW (n11+1))] (av H4 (q17.add (Int.toNat n13*1)) (iV 1))<μ9 w10 H3)) H3) (∃ q18,p1=some q18∧∃ n19,aa H3 (q18.add 3)=some (iV n19)∧∃ q20,p1=some q20∧∃ n21,aa H3 (q20.add 4)=some (iV n21)∧cS 168 #[pV p1] (fun v22 H5=>∃ a23 l23 c23,v22=lV a23 l23 c23∧∃(I24:IT) (μ24:MT),I24 [iV 0,iV 0] H5∧∀ w25 H6,I24 w25 H6->∀ _g:Nat->Value,∃ n26 n27,w25=[iV n26,iV n27]∧cond (decide (n27<(l23:Int))) (((0:Int)<=n27∧n27<(l23:Int))∧∃ q28,a23=some q28∧∃ n29,aa H6 (q28.add (Int.toNat n27*1))=some (iV n29)∧∃ q30,p1=some q30∧∃ a31 l31 c31,aa H6 (q30.add 1)=some (lV a31 l31 c31)∧((0:Int)<=n29∧n29<(l31:Int))∧∃ q32,a31=some q32∧∃ n33,aa H6 (q32.add (Int.toNat n29*1))=some (iV n33)∧((0:Int)<=n29∧n29<(l8:Int))∧∃ q34,a8=some q34∧∃ n35,aa H6 (q34.add (Int.toNat n29*1))=some (iV n35)∧cond (n35 == 0) (cS 169 #[pV p1,iV n29] (fun v36 H7=>v36=.tuple #[]∧I24 [iV n26,iV (wW (n27+1))] H7∧μ24 [iV n26,iV (wW (n27+1))] H7<μ24 w25 H6) H6) (cS 170 #[pV p1,iV n33] (fun v37 H8=>∃ n38,v37=iV n38∧∃ q39,p1=some q39∧∃ a40 l40 c40,aa H8 q39=some (lV a40 l40 c40)∧((0:Int)<=n26∧n26<=(l40:Int))∧∃ q41,p1=some q41∧∃ a42 l42 c42,aa H8 q41=some (lV a42 l42 c42)∧(((0:Int)<=(wW (n33+n38))∧(wW (n33+n38))<=(c42:Int))∧(0:Int)<=n33∧n33<=(wW (n33+n38)))∧aK PP (Builtin.copy_ #[30,30] 3 #[lV (gr a40 c40 n26 1) (l40-Int.toNat n26) (c40-Int.toNat n26),lV (gr a42 c42 n33 1) (Int.toNat (wW (n33+n38))-Int.toNat n33) (c42-Int.toNat n33)]) (fun v43 H9=>∃ n44,v43=iV n44∧True∧∃ q45,p1=some q45∧∃ a46 l46 c46,aa H9 (q45.add 1)=some (lV a46 l46 c46)∧((0:Int)<=n29∧n29<(l46:Int))∧∃ q47,a46=some q47∧Wr H9 (q47.add (Int.toNat n29*1))∧I24 [iV (wW (n26+n38)),iV (wW (n27+1))] (av H9 (q47.add (Int.toNat n29*1)) (iV n26))∧μ24 [iV (wW (n26+n38)),iV (wW (n27+1))] (av H9 (q47.add (Int.toNat n29*1)) (iV n26))<μ24 w25 H6) H8) H6)) (∃ q48,p1=some q48∧∃ a49 l49 c49,aa H6 q48=some (lV a49 l49 c49)∧∃ q50,p1=some q50∧∃ n51,aa H6 (q50.add 4)=some (iV n51)∧(((0:Int)<=n51∧n51<=(c49:Int))∧(0:Int)<=n26∧n26<=n51)∧aK PP (Builtin.clear_ #[30] 0 #[lV (gr a49 c49 n26 1) (Int.toNat n51-Int.toNat n26) (c49-Int.toNat n26)]) (fun v52 H10=>True∧∃ q53,p1=some q53∧Wr H10 (q53.add 4)∧∃ q54,p1=some q54∧∃ n55,aa (av H10 (q53.add 4) (iV n26)) (q54.add 8)=some (iV n55)∧∃ q56,shH (av (av H10 (q53.add 4) (iV n26)) (q56.add 8) (iV (wW (n55+1)))) fun C1=>p1=some q56∧Wr (av H10 (q53.add 4) (iV n26)) (q56.add 8)∧∃ q57,p1=some q57∧∃ n58,aa C1 (q57.add 3)=some (iV n58)∧Q (.tuple #[iV (wW (n19-n58)),iV (wW (n21-n26)),iV 0]) C1) H6)) H3)) H1)) H
theorem Dg {p1:Option Addr}{a2:Option Addr}{l2:Nat}{c2:Nat} (h:LO p1 a2 l2 c2 Q H):ac PP 83 #[.pointer p1,.slice a2 l2 c2] Q H :=
 aW good Tryz.func83 rfl (Ls:=fun | 5=>some [(29,3)] | 14=>some [(14,3),(57,3)] | _=>none) (by kernel_rfl) h
abbrev CH:Nat:=109
def Ix (p1:Option Addr) (Q:QT) (H:ae):Prop :=
 cond (Option.isNone p1) (Q (.bool true) H) (∃ q2,p1=some q2∧∃ a3 l3 c3,aa H (q2.add 1)=some (lV a3 l3 c3)∧Q (.bool (Option.isNone a3)) H)
theorem zh {p1:Option Addr} (h:Ix p1 Q H):ac PP 109 #[.pointer p1] Q H :=
 okF Tryz.func109 rfl h
abbrev En:Nat:=110
def Fl (n1:Int) (n2:Int) (Q:QT) (H:ae):Prop :=
 cond (decide ((0:Int)<=n1)) (Q (.bool (decide (n1<=n2))) H) (Q (.bool false) H)
theorem As {n1:Int}{n2:Int} (h:Fl n1 n2 Q H):ac PP 110 #[.int .i64 n1,.int .i64 n2] Q H :=
 okF Tryz.func110 rfl h
abbrev BK:Nat:=116
def Fv (p1:Option Addr) (n2:Int) (Q:QT) (H:ae):Prop :=
 ac PP 109 #[pV p1] (fun v3 H1=>∃ b4,v3=.bool b4∧cond b4 (Q (.tuple #[iV 0,iV 2]) H1) (cond (decide (n2<1)) (Q (.tuple #[iV 0,iV 20]) H1) (∃ q5,p1=some q5∧∃ a6 l6 c6,aa H1 (q5.add 1)=some (lV a6 l6 c6)∧cond (decide (n2 ≥ (l6:Int))) (Q (.tuple #[iV 0,iV 20]) H1) (∃ q7,p1=some q7∧∃ a8 l8 c8,aa H1 (q7.add 1)=some (lV a8 l8 c8)∧((0:Int)<=n2∧n2<(l8:Int))∧∃ q9,a8=some q9∧∃ n10,aa H1 (q9.add (Int.toNat n2*1))=some (iV n10)∧cond (decide (n10<0)) (Q (.tuple #[iV 0,iV 20]) H1) (∃ q11,p1=some q11∧∃ a12 l12 c12,aa H1 (q11.add 1)=some (lV a12 l12 c12)∧((0:Int)<=n2∧n2<(l12:Int))∧∃ q13,a12=some q13∧∃ n14,aa H1 (q13.add (Int.toNat n2*1))=some (iV n14)∧Q (.tuple #[iV n14,iV 0]) H1))))) H
theorem yq {p1:Option Addr}{n2:Int} (h:Fv p1 n2 Q H):ac PP 116 #[.pointer p1,.int .i64 n2] Q H :=
 okF Tryz.func116 rfl h
abbrev vR:Nat:=117
def Cz (p1:Option Addr) (n2:Int) (Q:QT) (H:ae):Prop :=
 ∃ q3,p1=some q3∧∃ a4 l4 c4,aa H q3=some (lV a4 l4 c4)∧((0:Int)<=(wW (n2+1))∧(wW (n2+1))<(l4:Int))∧∃ q5,a4=some q5∧∃ n6,aa H (q5.add (Int.toNat (wW (n2+1))*1))=some (iV n6)∧Q (.tuple #[iV (fe .i64 n6 1),iV (ja .i64 n6 1)]) H
theorem sM {p1:Option Addr}{n2:Int} (h:Cz p1 n2 Q H):ac PP 117 #[.pointer p1,.int .i64 n2] Q H :=
 okF Tryz.func117 rfl h
abbrev Dk:Nat:=118
def Ka (p1:Option Addr) (n2:Int) (n3:Int) (Q:QT) (H:ae):Prop :=
 ac PP 116 #[pV p1,iV n2] (fun v4 H1=>∃ n5 n6,v4=.tuple #[iV n5,iV n6]∧cond (n6 != 0) (Q (.tuple #[iV 0,iV 0,iV 0,iV n6]) H1) (cS 117 #[pV p1,iV n5] (fun v7 H2=>∃ n8 n9,v7=.tuple #[iV n8,iV n9]∧cond (decide (n3<0)) (Q (.tuple #[iV 0,iV 0,iV 0,iV 21]) H2) (cond (decide (n3 ≥ n8)) (Q (.tuple #[iV 0,iV 0,iV 0,iV 21]) H2) (cond (n9 == 1) (Q (.tuple #[iV (wW ((wW (n5+2))+(wW (Int.tdiv n3 4)))),iV (wW ((Int.tmod n3 4)*8)),iV n9,iV 0]) H2) (Q (.tuple #[iV (wW ((wW (n5+2))+n3)),iV 0,iV n9,iV 0]) H2)))) H1)) H
theorem zH {p1:Option Addr}{n2:Int}{n3:Int} (h:Ka p1 n2 n3 Q H):ac PP 118 #[.pointer p1,.int .i64 n2,.int .i64 n3] Q H :=
 okF Tryz.func118 rfl h
abbrev Ca:Nat:=139
def FX (n1:Int) (n2:Int) (Q:QT) (H:ae):Prop :=
 ac PP 110 #[iV n1,iV 1048576] (fun v3 H1=>∃ b4,v3=.bool b4∧cond (!b4) (Q (.tuple #[pV none,iV 1]) H1) (cS 110 #[iV n2,iV 65536] (fun v5 H2=>∃ b6,v5=.bool b6∧cond (!b6) (Q (.tuple #[pV none,iV 1]) H2) (∃ J7:IT,((aK PP (Instr.makeSlice 30 (iV n1) (iV n1)) (fun v8 H3=>∃ a9 l9 c9,v8=lV a9 l9 c9∧True∧(aK PP (Instr.makeSlice 25 (iV (wW (n2+1))) (iV (wW (n2+1)))) (fun v10 H4=>∃ a11 l11 c11,v10=lV a11 l11 c11∧True∧aK PP (Instr.makeSlice 25 (iV (wW (n2+1))) (iV (wW (n2+1)))) (fun v12 H5=>∃ a13 l13 c13,v12=lV a13 l13 c13∧True∧True∧J7 [pV (some (A0 H5.size))] (H5.push (.cells #[lV a9 l9 c9,lV a11 l11 c11,lV a13 l13 c13,iV 0,iV 0,iV 1,iV 0,iV 0,iV 0] 161))) H4) H3)∧(aK PP (Instr.makeSlice 25 (iV (wW (n2+1))) (iV (wW (n2+1)))) (fun v14 H6=>∃ a15 l15 c15,v14=lV a15 l15 c15∧True∧aK PP (Instr.makeSlice 25 (iV (wW (n2+1))) (iV (wW (n2+1)))) (fun v16 H7=>∃ a17 l17 c17,v16=lV a17 l17 c17∧True∧True∧J7 [pV (some (A0 H7.size))] (H7.push (.cells #[lV a9 l9 c9,lV a17 l17 c17,lV a15 l15 c15,iV 0,iV 0,iV 1,iV 0,iV 0,iV 0] 161))) H6) H3)) H2)∧(aK PP (Instr.makeSlice 25 (iV (wW (n2+1))) (iV (wW (n2+1)))) (fun v18 H8=>∃ a19 l19 c19,v18=lV a19 l19 c19∧True∧(aK PP (Instr.makeSlice 30 (iV n1) (iV n1)) (fun v20 H9=>∃ a21 l21 c21,v20=lV a21 l21 c21∧True∧aK PP (Instr.makeSlice 25 (iV (wW (n2+1))) (iV (wW (n2+1)))) (fun v22 H10=>∃ a23 l23 c23,v22=lV a23 l23 c23∧True∧True∧J7 [pV (some (A0 H10.size))] (H10.push (.cells #[lV a21 l21 c21,lV a19 l19 c19,lV a23 l23 c23,iV 0,iV 0,iV 1,iV 0,iV 0,iV 0] 161))) H9) H8)∧(aK PP (Instr.makeSlice 25 (iV (wW (n2+1))) (iV (wW (n2+1)))) (fun v24 H11=>∃ a25 l25 c25,v24=lV a25 l25 c25∧True∧aK PP (Instr.makeSlice 30 (iV n1) (iV n1)) (fun v26 H12=>∃ a27 l27 c27,v26=lV a27 l27 c27∧True∧True∧J7 [pV (some (A0 H12.size))] (H12.push (.cells #[lV a27 l27 c27,lV a19 l19 c19,lV a25 l25 c25,iV 0,iV 0,iV 1,iV 0,iV 0,iV 0] 161))) H11) H8)) H2)∧(aK PP (Instr.makeSlice 25 (iV (wW (n2+1))) (iV (wW (n2+1)))) (fun v28 H13=>∃ a29 l29 c29,v28=lV a29 l29 c29∧True∧(aK PP (Instr.makeSlice 30 (iV n1) (iV n1)) (fun v30 H14=>∃ a31 l31 c31,v30=lV a31 l31 c31∧True∧aK PP (Instr.makeSlice 25 (iV (wW (n2+1))) (iV (wW (n2+1)))) (fun v32 H15=>∃ a33 l33 c33,v32=lV a33 l33 c33∧True∧True∧J7 [pV (some (A0 H15.size))] (H15.push (.cells #[lV a31 l31 c31,lV a33 l33 c33,lV a29 l29 c29,iV 0,iV 0,iV 1,iV 0,iV 0,iV 0] 161))) H14) H13)∧(aK PP (Instr.makeSlice 25 (iV (wW (n2+1))) (iV (wW (n2+1)))) (fun v34 H16=>∃ a35 l35 c35,v34=lV a35 l35 c35∧True∧aK PP (Instr.makeSlice 30 (iV n1) (iV n1)) (fun v36 H17=>∃ a37 l37 c37,v36=lV a37 l37 c37∧True∧True∧J7 [pV (some (A0 H17.size))] (H17.push (.cells #[lV a37 l37 c37,lV a35 l35 c35,lV a29 l29 c29,iV 0,iV 0,iV 1,iV 0,iV 0,iV 0] 161))) H16) H13)) H2))∧∀ w38 H18,J7 w38 H18->∀ _g:Nat->Value,∃ p39,w38=[pV p39]∧∃ q40,p39=some q40∧∃ a41 l41 c41,aa H18 (q40.add 1)=some (lV a41 l41 c41)∧∃(I42:IT) (μ42:MT),I42 [iV 0] H18∧∀ w43 H19,I42 w43 H19->∀ _g:Nat->Value,∃ n44,w43=[iV n44]∧cond (decide (n44<(l41:Int))) (∃ q45,p39=some q45∧∃ a46 l46 c46,aa H19 (q45.add 1)=some (lV a46 l46 c46)∧((0:Int)<=n44∧n44<(l46:Int))∧∃ q47,a46=some q47∧Wr H19 (q47.add (Int.toNat n44*1))∧I42 [iV (wW (n44+1))] (av H19 (q47.add (Int.toNat n44*1)) (iV (-1)))∧μ42 [iV (wW (n44+1))] (av H19 (q47.add (Int.toNat n44*1)) (iV (-1)))<μ42 w43 H19) (Q (.tuple #[pV p39,iV 0]) H19))) H1)) H
theorem yP {n1:Int}{n2:Int} (h:FX n1 n2 Q H):ac PP 139 #[.int .i64 n1,.int .i64 n2] Q H :=
 aW good Tryz.func139 rfl (Ls:=fun | 1004=>some [(6,66)] | 5=>some [(31,3)] | _=>none) (by kernel_rfl) h
abbrev Ci:Nat:=140
def HF (n1:Int) (Q:QT) (H:ae):Prop :=
 ac PP 13 #[iV n1] (fun v2 H1=>∃ n3,v2=iV n3∧Q (.bool (n3 != 0)) H1) H
theorem zV {n1:Int} (h:HF n1 Q H):ac PP 140 #[.int .i64 n1] Q H :=
 okF Tryz.func140 rfl h
abbrev DH:Nat:=141
def Ku (n1:Int) (n2:Int) (Q:QT) (H:ae):Prop :=
 cond (n2 == 1) (Q (iV (wW (2+(wW (Int.tdiv (wW ((wW (n1+4))-1)) 4))))) H) (Q (iV (wW (2+n1))) H)
theorem z6 {n1:Int}{n2:Int} (h:Ku n1 n2 Q H):ac PP 141 #[.int .i64 n1,.int .i64 n2] Q H :=
 okF Tryz.func141 rfl h
abbrev xf:Nat:=142
def Gd (p1:Option Addr) (n2:Int) (n3:Int) (n4:Int) (n5:Int) (Q:QT) (H:ae):Prop :=
 ∃ q6,p1=some q6∧∃ n7,aa H (q6.add 4)=some (iV n7)∧∃ q8,p1=some q8∧∃ a9 l9 c9,aa H q8=some (lV a9 l9 c9)∧∃ q10,p1=some q10∧∃ a11 l11 c11,aa H q10=some (lV a11 l11 c11)∧((0:Int)<=n7∧n7<(l9:Int))∧∃ q12,a9=some q12∧Wr H (q12.add (Int.toNat n7*1))∧True∧((0:Int)<=(wW (n7+1))∧(wW (n7+1))<(l11:Int))∧∃ q13,shH (av (av H (q12.add (Int.toNat n7*1)) (iV n3)) (q13.add (Int.toNat (wW (n7+1))*1)) (iV (sy .i64 (eA .i64 n4 1) n5))) fun C1=>a11=some q13∧Wr (av H (q12.add (Int.toNat n7*1)) (iV n3)) (q13.add (Int.toNat (wW (n7+1))*1))∧True∧∃ q14,p1=some q14∧∃ a15 l15 c15,aa C1 (q14.add 1)=some (lV a15 l15 c15)∧∃ q16,p1=some q16∧∃ a17 l17 c17,aa C1 (q16.add 2)=some (lV a17 l17 c17)∧∃ q18,p1=some q18∧∃ n19,aa C1 (q18.add 7)=some (iV n19)∧((0:Int)<=n2∧n2<(l15:Int))∧∃ q20,a15=some q20∧Wr C1 (q20.add (Int.toNat n2*1))∧True∧((0:Int)<=n2∧n2<(l17:Int))∧∃ q21,shH (av (av C1 (q20.add (Int.toNat n2*1)) (iV n7)) (q21.add (Int.toNat n2*1)) (iV n19)) fun C4=>a17=some q21∧Wr (av C1 (q20.add (Int.toNat n2*1)) (iV n7)) (q21.add (Int.toNat n2*1))∧True∧∃ q22,p1=some q22∧∃ n23,aa C4 (q22.add 4)=some (iV n23)∧cS 141 #[iV n4,iV n5] (fun v24 H1=>∃ n25,v24=iV n25∧((aa H1 (q22.add 4)=some (iV n23)∧True)∧True)∧∃ q26,shH (av H1 (q26.add 4) (iV (wW (n23+n25)))) fun C2=>p1=some q26∧Wr H1 (q26.add 4)∧True∧∃ q27,p1=some q27∧∃ n28,aa C2 (q27.add 7)=some (iV n28)∧∃ q29,shH (av C2 (q29.add 7) (iV (wW (n28+1)))) fun C3=>p1=some q29∧Wr C2 (q29.add 7)∧∃ q30,p1=some q30∧∃ n31,aa C3 (q30.add 3)=some (iV n31)∧∃ q32,p1=some q32∧Wr C3 (q32.add 3)∧Q (iV n7) (av C3 (q32.add 3) (iV (wW (n31+1))))) C4
theorem xI {p1:Option Addr}{n2:Int}{n3:Int}{n4:Int}{n5:Int} (h:Gd p1 n2 n3 n4 n5 Q H):ac PP 142 #[.pointer p1,.int .i64 n2,.int .i64 n3,.int .i64 n4,.int .i64 n5] Q H :=
 okF Tryz.func142 rfl h
abbrev rf:Nat:=148
def Cb (p1:Option Addr) (n2:Int) (n3:Int) (n4:Int) (Q:QT) (H:ae):Prop :=
 ac PP 118 #[pV p1,iV n2,iV n3] (fun v5 H1=>∃ n6 n7 n8 n9,v5=.tuple #[iV n6,iV n7,iV n8,iV n9]∧cond (n9 != 0) (Q (iV n9) H1) (cS 269 #[iV n4,iV n8] (fun v10 H2=>∃ b11,v10=.bool b11∧cond (!b11) (Q (iV 10) H2) (cond (n8 == 1) (∃ q12,p1=some q12∧∃ a13 l13 c13,aa H2 q12=some (lV a13 l13 c13)∧((0:Int)<=n6∧n6<(l13:Int))∧∃ q14,a13=some q14∧∃ n15,aa H2 (q14.add (Int.toNat n6*1))=some (iV n15)∧cond (decide (n7<0)) False (cond (decide (n7<0)) False (∃ q16,p1=some q16∧∃ a17 l17 c17,aa H2 q16=some (lV a17 l17 c17)∧((0:Int)<=n6∧n6<(l17:Int))∧∃ q18,a17=some q18∧Wr H2 (q18.add (Int.toNat n6*1))∧Q (iV 0) (av H2 (q18.add (Int.toNat n6*1)) (iV (sy .i64 (jq .i64 n15 (eA .i64 255 n7)) (eA .i64 n4 n7))))))) (∃ q19,p1=some q19∧∃ a20 l20 c20,aa H2 q19=some (lV a20 l20 c20)∧((0:Int)<=n6∧n6<(l20:Int))∧∃ q21,a20=some q21∧Wr H2 (q21.add (Int.toNat n6*1))∧Q (iV 0) (av H2 (q21.add (Int.toNat n6*1)) (iV n4))))) H1)) H
theorem sF {p1:Option Addr}{n2:Int}{n3:Int}{n4:Int} (h:Cb p1 n2 n3 n4 Q H):ac PP 148 #[.pointer p1,.int .i64 n2,.int .i64 n3,.int .i64 n4] Q H :=
 okF Tryz.func148 rfl h
abbrev Cy:Nat:=168
def Io (p1:Option Addr) (Q:QT) (H:ae):Prop :=
 ∃ p2,aa (H.push (.cells #[pV p1] 66)) (A0 H.size)=some (pV p2)∧cS 283 #[pV p2] (fun v3 H1=>∃ a4 l4 c4,v3=lV a4 l4 c4∧cS 284 #[lV a4 l4 c4,.func (.func 285) #[] #[pV (some (A0 H.size))]] (fun v5 H2=>v5=.tuple #[]∧Q (lV a4 l4 c4) H2) H1) (H.push (.cells #[pV p1] 66))
theorem Ai {p1:Option Addr} (h:Io p1 Q H):ac PP 168 #[.pointer p1] Q H :=
 okF Tryz.func168 rfl h
abbrev Ee:Nat:=169
def KN (p1:Option Addr) (n2:Int) (Q:QT) (H:ae):Prop :=
 ∃ q3,p1=some q3∧∃ a4 l4 c4,aa H q3=some (lV a4 l4 c4)∧∃ q5,p1=some q5∧∃ a6 l6 c6,aa H (q5.add 1)=some (lV a6 l6 c6)∧((0:Int)<=n2∧n2<(l6:Int))∧∃ q7,a6=some q7∧∃ n8,aa H (q7.add (Int.toNat n2*1))=some (iV n8)∧((0:Int)<=n8∧n8<(l4:Int))∧∃ q9,shH (av H (q9.add (Int.toNat n8*1)) (iV 0)) fun C3=>a4=some q9∧Wr H (q9.add (Int.toNat n8*1))∧True∧∃ q10,p1=some q10∧∃ a11 l11 c11,aa C3 (q10.add 1)=some (lV a11 l11 c11)∧((0:Int)<=n2∧n2<(l11:Int))∧∃ q12,shH (av C3 (q12.add (Int.toNat n2*1)) (iV (-1))) fun C1=>a11=some q12∧Wr C3 (q12.add (Int.toNat n2*1))∧∃ q13,p1=some q13∧∃ n14,aa C1 (q13.add 5)=some (iV n14)∧∃ q15,shH (av C1 (q15.add 5) (iV (if n2<n14 then n2 else n14))) fun C2=>p1=some q15∧Wr C1 (q15.add 5)∧∃ q16,p1=some q16∧∃ n17,aa C2 (q16.add 3)=some (iV n17)∧∃ q18,p1=some q18∧Wr C2 (q18.add 3)∧Q (.tuple #[]) (av C2 (q18.add 3) (iV (wW (n17-1))))
theorem Ap {p1:Option Addr}{n2:Int} (h:KN p1 n2 Q H):ac PP 169 #[.pointer p1,.int .i64 n2] Q H :=
 okF Tryz.func169 rfl h
abbrev BB:Nat:=170
def Fm (p1:Option Addr) (n2:Int) (Q:QT) (H:ae):Prop :=
 ac PP 117 #[pV p1,iV n2] (fun v3 H1=>∃ n4 n5,v3=.tuple #[iV n4,iV n5]∧cS 141 #[iV n4,iV n5] (fun v6 H2=>∃ n7,v6=iV n7∧Q (iV n7) H2) H1) H
theorem yh {p1:Option Addr}{n2:Int} (h:Fm p1 n2 Q H):ac PP 170 #[.pointer p1,.int .i64 n2] Q H :=
 okF Tryz.func170 rfl h
abbrev CT:Nat:=269
def GL (n1:Int) (n2:Int) (Q:QT) (H:ae):Prop :=
 cond (n2 == 1) (cond (decide ((0:Int)<=n1)) (Q (.bool (decide (n1<=255))) H) (Q (.bool false) H)) (cS 140 #[iV n1] (fun v3 H1=>∃ b4,v3=.bool b4∧Q (.bool b4) H1) H)
theorem zx {n1:Int}{n2:Int} (h:GL n1 n2 Q H):ac PP 269 #[.int .i64 n1,.int .i64 n2] Q H :=
 okF Tryz.func269 rfl h
abbrev Dc:Nat:=283
def IU (p1:Option Addr) (Q:QT) (H:ae):Prop :=
 ac PP 109 #[pV p1] (fun v2 H1=>∃ b3,v2=.bool b3∧cond b3 (Q (lV none 0 0) H1) (∃ q4,p1=some q4∧∃ n5,aa H1 (q4.add 3)=some (iV n5)∧aK PP (Instr.makeSlice 25 (iV 0) (iV n5)) (fun v6 H2=>∃ a7 l7 c7,v6=lV a7 l7 c7∧∃ q8,p1=some q8∧∃ a9 l9 c9,aa H2 (q8.add 1)=some (lV a9 l9 c9)∧∃(I10:IT) (μ10:MT),I10 [lV a7 l7 c7,iV 0] H2∧∀ w11 H3,I10 w11 H3->∀ _g:Nat->Value,∃ a12 l12 c12 n13,w11=[lV a12 l12 c12,iV n13]∧cond (decide (n13<(l9:Int))) (((0:Int)<=n13∧n13<(l9:Int))∧∃ q14,a9=some q14∧∃ n15,aa H3 (q14.add (Int.toNat n13*1))=some (iV n15)∧cond (decide (n15 ≥ 0)) (aK PP (Builtin.append_ #[25,25] 25 #[lV a12 l12 c12,lV (some (A0 H3.size)) 1 1]) (fun v16 H4=>∃ a17 l17 c17,v16=lV a17 l17 c17∧I10 [lV a17 l17 c17,iV (wW (n13+1))] H4∧μ10 [lV a17 l17 c17,iV (wW (n13+1))] H4<μ10 w11 H3) (H3.push (.cells #[iV n13] 3))) (I10 [lV a12 l12 c12,iV (wW (n13+1))] H3∧μ10 [lV a12 l12 c12,iV (wW (n13+1))] H3<μ10 w11 H3)) (Q (lV a12 l12 c12) H3)) H1)) H
theorem zD {p1:Option Addr} (h:IU p1 Q H):ac PP 283 #[.pointer p1] Q H :=
 aW good Tryz.func283 rfl (Ls:=fun | 5=>some [(3,25),(18,3)] | _=>none) (by kernel_rfl) h
abbrev EL:Nat:=285
def FK (n1:Int) (n2:Int) (q_0:Addr) (Q:QT) (H:ae):Prop :=
 ∃ p3,aa H q_0=some (pV p3)∧∃ q4,p3=some q4∧∃ a5 l5 c5,aa H (q4.add 1)=some (lV a5 l5 c5)∧((0:Int)<=n1∧n1<(l5:Int))∧∃ q6,a5=some q6∧∃ n7,aa H (q6.add (Int.toNat n1*1))=some (iV n7)∧∃ p8,aa H q_0=some (pV p8)∧∃ q9,p8=some q9∧∃ a10 l10 c10,aa H (q9.add 1)=some (lV a10 l10 c10)∧((0:Int)<=n2∧n2<(l10:Int))∧∃ q11,a10=some q11∧∃ n12,aa H (q11.add (Int.toNat n2*1))=some (iV n12)∧Q (iV (wW (n7-n12))) H
theorem AM {n1:Int}{n2:Int}{q_0:Addr} (h:FK n1 n2 q_0 Q H):ac PP 285 #[.int .i64 n1,.int .i64 n2,.pointer (some q_0)] Q H :=
 okF Tryz.func285 rfl h
end Go.Proofs.YtgjfejoohojokaaGreatDoor
namespace Go.Proofs.YtgjfejoohojokaaGreatDoor
open Kw
variable {Q:QT}{H:ae}
abbrev IK:Nat:=13
def Me (n1:Int) (Q:QT) (H:ae):Prop :=
 ((0:Int)<=(ja .i64 n1 3)∧(ja .i64 n1 3)<(4:Int))∧∃ n2,aa H ((A0 0).add (Int.toNat (ja .i64 n1 3)*1))=some (iV n2)∧cond (n2 == 1) (cS 31 #[iV (fe .i64 n1 1)] (fun v3 H1=>∃ b4,v3=.bool b4∧cond (!b4) (Q (iV 0) H1) (cond (n2 == 2) (cond (decide (n1<0)) (Q (iV 0) H1) (cond (decide ((fe .i64 n1 2) ≥ 4096)) (Q (iV 0) H1) (cond (n2 == 3) (cond (decide (n1<=0)) (Q (iV 0) H1) (cond (decide ((fe .i64 n1 2) > 65536)) (Q (iV 0) H1) (Q (iV n2) H1))) (Q (iV n2) H1)))) (cond (n2 == 3) (cond (decide (n1<=0)) (Q (iV 0) H1) (cond (decide ((fe .i64 n1 2) > 65536)) (Q (iV 0) H1) (Q (iV n2) H1))) (Q (iV n2) H1)))) H) (cond (n2 == 2) (cond (decide (n1<0)) (Q (iV 0) H) (cond (decide ((fe .i64 n1 2) ≥ 4096)) (Q (iV 0) H) (cond (n2 == 3) (cond (decide (n1<=0)) (Q (iV 0) H) (cond (decide ((fe .i64 n1 2) > 65536)) (Q (iV 0) H) (Q (iV n2) H))) (Q (iV n2) H)))) (cond (n2 == 3) (cond (decide (n1<=0)) (Q (iV 0) H) (cond (decide ((fe .i64 n1 2) > 65536)) (Q (iV 0) H) (Q (iV n2) H))) (Q (iV n2) H)))
theorem EB {n1:Int} (h:Me n1 Q H):ac PP 13 #[.int .i64 n1] Q H :=
 okF Tryz.func13 rfl h
abbrev A7:Nat:=31
def Lc (n1:Int) (Q:QT) (H:ae):Prop :=
 cond (decide (n1 ≥ (-1073741824))) (Q (.bool (decide (n1<=1073741823))) H) (Q (.bool false) H)
theorem vW {n1:Int} (h:Lc n1 Q H):ac PP 31 #[.int .i64 n1] Q H :=
 okF Tryz.func31 rfl h
abbrev Bh:Nat:=34
def L0 (p1:Option Addr) (Q:QT) (H:ae):Prop :=
 ac PP 90 #[pV p1] (fun v2 H1=>∃ b3,v2=.bool b3∧cond b3 (Q (iV 0) H1) (∃ q4,p1=some q4∧∃ a5 l5 c5,aa H1 (q4.add 1)=some (lV a5 l5 c5)∧Q (iV (l5:Int)) H1)) H
theorem EX {p1:Option Addr} (h:L0 p1 Q H):ac PP 34 #[.pointer p1] Q H :=
 okF Tryz.func34 rfl h
abbrev HW:Nat:=70
def L5 (n1:Int) (Q:QT) (H:ae):Prop :=
 cond (decide (n1<0)) (Q (.tuple #[pV none,iV 1]) H) (cond (decide (n1 > 4096)) (Q (.tuple #[pV none,iV 1]) H) (Q (.tuple #[pV (some (⟨(H.push (.map #[] 0)).size,0,none⟩:Addr)),iV 0]) ((H.push (.map #[] 0)).push (.cells #[iV n1,lV none 0 0,.map (some H.size)] 143))))
theorem Bo {n1:Int} (h:L5 n1 Q H):ac PP 70 #[.int .i64 n1] Q H :=
 okF Tryz.func70 rfl h
def K4  (Q:QT) (H:ae):Prop :=
 Q (lV (some (A0 H.size)) 14 14) (H.push (.cells #[sV (⟨#[79,98,106,101,99,116]⟩:ByteArray),sV (⟨#[85,110,100,101,102,105,110,101,100,79,98,106,101,99,116]⟩:ByteArray),sV (⟨#[70,97,108,115,101]⟩:ByteArray),sV (⟨#[84,114,117,101]⟩:ByteArray),sV (⟨#[73,110,116,101,103,101,114]⟩:ByteArray),sV (⟨#[83,121,109,98,111,108]⟩:ByteArray),sV (⟨#[83,116,114,105,110,103]⟩:ByteArray),sV (⟨#[65,114,114,97,121]⟩:ByteArray),sV (⟨#[67,108,97,115,115]⟩:ByteArray),sV (⟨#[77,101,116,104,111,100]⟩:ByteArray),sV (⟨#[66,108,111,99,107]⟩:ByteArray),sV (⟨#[67,111,110,116,101,120,116]⟩:ByteArray),sV (⟨#[80,114,111,99,101,115,115]⟩:ByteArray),sV (⟨#[77,101,115,115,97,103,101]⟩:ByteArray)] 9))
theorem uX  (h:K4  Q H):ac PP 71 #[] Q H :=
 okF Tryz.func71 rfl h
abbrev Gm:Nat:=73
def Mm (n1:Int) (Q:QT) (H:ae):Prop :=
 ac PP 84 #[iV n1] (fun v2 H1=>∃ n3 n4,v2=.tuple #[iV n3,iV n4]∧Q (iV n3) H1) H
theorem CF {n1:Int} (h:Mm n1 Q H):ac PP 73 #[.int .i64 n1] Q H :=
 okF Tryz.func73 rfl h
abbrev wa:Nat:=84
def Lj (n1:Int) (Q:QT) (H:ae):Prop :=
 cond (decide (n1<1)) (Q (.tuple #[iV 0,iV 1]) H) (cond (decide (n1 > 65536)) (Q (.tuple #[iV 0,iV 1]) H) (Q (.tuple #[iV (eA .i64 n1 2),iV 0]) H))
theorem wC {n1:Int} (h:Lj n1 Q H):ac PP 84 #[.int .i64 n1] Q H :=
 okF Tryz.func84 rfl h
abbrev IC:Nat:=89
def Mb (n1:Int) (Q:QT) (H:ae):Prop :=
 ac PP 13 #[iV n1] (fun v2 H1=>∃ n3,v2=iV n3∧cond (n3 != 3) (Q (.tuple #[iV 0,iV 10]) H1) (Q (.tuple #[iV (fe .i64 n1 2),iV 0]) H1)) H
theorem BI {n1:Int} (h:Mb n1 Q H):ac PP 89 #[.int .i64 n1] Q H :=
 okF Tryz.func89 rfl h
abbrev Fs:Nat:=90
def LM (p1:Option Addr) (Q:QT) (H:ae):Prop :=
 cond (Option.isNone p1) (Q (.bool true) H) (∃ q2,p1=some q2∧∃ r3:Option Nat,aa H (q2.add 2)=some (.map r3)∧Q (.bool (Option.isNone r3)) H)
theorem BS {p1:Option Addr} (h:LM p1 Q H):ac PP 90 #[.pointer p1] Q H :=
 okF Tryz.func90 rfl h
def Ht (a1:Option Addr) (l1:Nat) (c1:Nat) (Q:QT) (H:ae):Prop :=
 (((0:Int)<=(l1:Int)∧(l1:Int)<=(c1:Int))∧(0:Int)<=(l1:Int)∧(l1:Int)<=(l1:Int))∧Q (lV a1 (Int.toNat (l1:Int)) (Int.toNat (l1:Int))) H
theorem yQ {a1:Option Addr}{l1:Nat}{c1:Nat} (h:Ht a1 l1 c1 Q H):ac PP 123 #[.slice a1 l1 c1] Q H :=
 okF Tryz.func123 rfl h
abbrev DC:Nat:=124
def HI (a1:Option Addr) (l1:Nat) (c1:Nat) (Q:QT) (H:ae):Prop :=
 cond (Option.isNone a1) (Q (lV none 0 0) H) (aK PP (Builtin.append_ #[30,30] 30 #[lV (some (A0 H.size)) 0 0,lV a1 l1 c1]) (fun v2 H1=>∃ a3 l3 c3,v2=lV a3 l3 c3∧Q (lV a3 l3 c3) H1) (H.push (.cells #[] 26)))
theorem zX {a1:Option Addr}{l1:Nat}{c1:Nat} (h:HI a1 l1 c1 Q H):ac PP 124 #[.slice a1 l1 c1] Q H :=
 okF Tryz.func124 rfl h
abbrev DY:Nat:=143
def Ge (a1:Option Addr) (l1:Nat) (c1:Nat) (f1:Nat) (g1:Array Value) (h1:Array Value) (Q:QT) (H:ae):Prop :=
 ac PP 267 #[lV a1 l1 c1,.func (.func f1) g1 h1] (fun v2 H1=>∃ n3,v2=iV n3∧Q (.bool (decide (n3 ≥ 0))) H1) H
theorem xK {a1:Option Addr}{l1:Nat}{c1:Nat}{f1:Nat}{g1:Array Value}{h1:Array Value} (h:Ge a1 l1 c1 f1 g1 h1 Q H):ac PP 143 #[.slice a1 l1 c1,.func (.func f1) g1 h1] Q H :=
 okF Tryz.func143 rfl h
abbrev Cu:Nat:=145
def Gj (p1:Option Addr) (s2:ByteArray) (Q:QT) (H:ae):Prop :=
 ac PP 90 #[pV p1] (fun v3 H1=>∃ b4,v3=.bool b4∧cond b4 (Q (.tuple #[iV 0,iV 2]) H1) (cond (decide ((s2.size:Int)<1)) (Q (.tuple #[iV 0,iV 61]) H1) (cond (decide ((s2.size:Int) > 96)) (Q (.tuple #[iV 0,iV 61]) H1) (∃ q5,p1=some q5∧∃ r6:Option Nat,aa H1 (q5.add 2)=some (.map r6)∧aK PP (Instr.lookup 141 (.map r6) (sV s2) true) (fun v7 H2=>∃ n8 b9,v7=.tuple #[iV n8,.bool b9]∧cond b9 (Q (.tuple #[iV n8,iV 0]) H2) (∃ q10,p1=some q10∧∃ a11 l11 c11,aa H2 (q10.add 1)=some (lV a11 l11 c11)∧∃ q12,p1=some q12∧∃ n13,aa H2 q12=some (iV n13)∧cond (decide ((l11:Int) ≥ n13)) (Q (.tuple #[iV 0,iV 60]) H2) (∃ q14,p1=some q14∧∃ a15 l15 c15,aa H2 (q14.add 1)=some (lV a15 l15 c15)∧aK PP (Builtin.append_ #[61,61] 61 #[lV a15 l15 c15,lV (some (A0 H2.size)) 1 1]) (fun v16 H3=>∃ a17 l17 c17,v16=lV a17 l17 c17∧∃ q18,p1=some q18∧Wr H3 (q18.add 1)∧∃ q19,p1=some q19∧∃ r20:Option Nat,aa (av H3 (q18.add 1) (lV a17 l17 c17)) (q19.add 2)=some (.map r20)∧aK PP (Instr.mapUpdate 141 (.map r20) (sV s2) (iV (l11:Int))) (fun _ H4=>Q (.tuple #[iV (l11:Int),iV 0]) H4) (av H3 (q18.add 1) (lV a17 l17 c17))) (H2.push (.cells #[sV s2] 9))))) H1)))) H
theorem za {p1:Option Addr}{s2:ByteArray} (h:Gj p1 s2 Q H):ac PP 145 #[.pointer p1,.string s2] Q H :=
 okF Tryz.func145 rfl h
abbrev DZ:Nat:=146
def Ip (n1:Int) (Q:QT) (H:ae):Prop :=
 cond (decide (n1<0)) (Q (.tuple #[iV 0,iV 1]) H) (cond (decide (n1 ≥ 4096)) (Q (.tuple #[iV 0,iV 1]) H) (Q (.tuple #[iV (sy .i64 (eA .i64 n1 2) 2),iV 0]) H))
theorem Aj {n1:Int} (h:Ip n1 Q H):ac PP 146 #[.int .i64 n1] Q H :=
 okF Tryz.func146 rfl h
abbrev Ef:Nat:=147
def LC (n1:Int) (Q:QT) (H:ae):Prop :=
 ac PP 268 #[iV n1] (fun v2 H1=>∃ n3 n4,v2=.tuple #[iV n3,iV n4]∧Q (iV n3) H1) H
theorem x0 {n1:Int} (h:LC n1 Q H):ac PP 147 #[.int .i64 n1] Q H :=
 okF Tryz.func147 rfl h
abbrev BC:Nat:=149
def GH (s1:ByteArray) (n2:Int) (n3:Int) (Q:QT) (H:ae):Prop :=
 cond (cp s1 (⟨#[]⟩:ByteArray)) (Q (.bool false) H) (cond (decide ((s1.size:Int) > 32)) (Q (.bool false) H) (∃ u4:UInt8,((0:Int)<=0∧s1[Int.toNat 0]?=some u4)∧cond (decide ((u4.toNat:Int)<n2)) (Q (.bool false) H) (∃ u5:UInt8,((0:Int)<=0∧s1[Int.toNat 0]?=some u5)∧cond (decide ((u5.toNat:Int) > n3)) (Q (.bool false) H) (aK PP (convert 9 249 (sV s1)) (fun v6 H1=>∃ a7 l7 c7,v6=lV a7 l7 c7∧∃(I8:IT) (μ8:MT),I8 [iV 0] H1∧∀ w9 H2,I8 w9 H2->∀ _g:Nat->Value,∃ n10,w9=[iV n10]∧cond (decide (n10<(l7:Int))) (((0:Int)<=n10∧n10<(l7:Int))∧∃ q11,a7=some q11∧∃ n12,aa H2 (q11.add (Int.toNat n10*1))=some (.int .u8 n12)∧cond (decide (n12<97)) (cond (decide (n12<65)) (cond (decide (n12<48)) (Q (.bool false) H2) (cond (decide (n12 > 57)) (Q (.bool false) H2) (I8 [iV (wW (n10+1))] H2∧μ8 [iV (wW (n10+1))] H2<μ8 w9 H2))) (cond (decide (n12 > 90)) (cond (decide (n12<48)) (Q (.bool false) H2) (cond (decide (n12 > 57)) (Q (.bool false) H2) (I8 [iV (wW (n10+1))] H2∧μ8 [iV (wW (n10+1))] H2<μ8 w9 H2))) (I8 [iV (wW (n10+1))] H2∧μ8 [iV (wW (n10+1))] H2<μ8 w9 H2))) (cond (decide (n12 > 122)) (cond (decide (n12<65)) (cond (decide (n12<48)) (Q (.bool false) H2) (cond (decide (n12 > 57)) (Q (.bool false) H2) (I8 [iV (wW (n10+1))] H2∧μ8 [iV (wW (n10+1))] H2<μ8 w9 H2))) (cond (decide (n12 > 90)) (cond (decide (n12<48)) (Q (.bool false) H2) (cond (decide (n12 > 57)) (Q (.bool false) H2) (I8 [iV (wW (n10+1))] H2∧μ8 [iV (wW (n10+1))] H2<μ8 w9 H2))) (I8 [iV (wW (n10+1))] H2∧μ8 [iV (wW (n10+1))] H2<μ8 w9 H2))) (I8 [iV (wW (n10+1))] H2∧μ8 [iV (wW (n10+1))] H2<μ8 w9 H2))) (Q (.bool true) H2)) H))))
theorem yj {s1:ByteArray}{n2:Int}{n3:Int} (h:GH s1 n2 n3 Q H):ac PP 149 #[.string s1,.int .u8 n2,.int .u8 n3] Q H :=
 aW good Tryz.func149 rfl (Ls:=fun | 4=>some [(31,3)] | _=>none) (by kernel_rfl) h
abbrev CU:Nat:=154
def GM (s1:ByteArray) (Q:QT) (H:ae):Prop :=
 cond (cp s1 (⟨#[115,101,108,102]⟩:ByteArray)) (Q (.bool false) H) (cond (cp s1 (⟨#[115,117,112,101,114]⟩:ByteArray)) (Q (.bool false) H) (cond (cp s1 (⟨#[110,105,108]⟩:ByteArray)) (Q (.bool false) H) (cond (cp s1 (⟨#[116,114,117,101]⟩:ByteArray)) (Q (.bool false) H) (cond (cp s1 (⟨#[102,97,108,115,101]⟩:ByteArray)) (Q (.bool false) H) (cS 149 #[sV s1,.int .u8 97,.int .u8 122] (fun v2 H1=>∃ b3,v2=.bool b3∧Q (.bool b3) H1) H)))))
theorem zy {s1:ByteArray} (h:GM s1 Q H):ac PP 154 #[.string s1] Q H :=
 okF Tryz.func154 rfl h
abbrev EC:Nat:=155
def IW (a1:Option Addr) (l1:Nat) (c1:Nat) (s2:ByteArray) (Q:QT) (H:ae):Prop :=
 ac PP 278 #[lV a1 l1 c1,sV s2] (fun v3 H1=>∃ n4,v3=iV n4∧Q (.bool (decide (n4 ≥ 0))) H1) H
theorem AG {a1:Option Addr}{l1:Nat}{c1:Nat}{s2:ByteArray} (h:IW a1 l1 c1 s2 Q H):ac PP 155 #[.slice a1 l1 c1,.string s2] Q H :=
 okF Tryz.func155 rfl h
abbrev EN:Nat:=163
def FM (p1:Option Addr) (n2:Int) (Q:QT) (H:ae):Prop :=
 ac PP 90 #[pV p1] (fun v3 H1=>∃ b4,v3=.bool b4∧cond b4 (Q (iV 2) H1) (cond (decide (n2<0)) (Q (iV 1) H1) (∃ q5,p1=some q5∧∃ a6 l6 c6,aa H1 (q5.add 1)=some (lV a6 l6 c6)∧cond (decide (n2 > (l6:Int))) (Q (iV 1) H1) (∃ q7,p1=some q7∧∃ a8 l8 c8,aa H1 (q7.add 1)=some (lV a8 l8 c8)∧∃(I9:IT) (μ9:MT),I9 [iV 0] H1∧∀ w10 H2,I9 w10 H2->∀ _g:Nat->Value,∃ n11,w10=[iV n11]∧cond (decide (n11<(wW ((l8:Int)-n2)))) (∃ q12,p1=some q12∧∃ r13:Option Nat,aa H2 (q12.add 2)=some (.map r13)∧∃ q14,p1=some q14∧∃ a15 l15 c15,aa H2 (q14.add 1)=some (lV a15 l15 c15)∧((0:Int)<=(wW (n2+n11))∧(wW (n2+n11))<(l15:Int))∧∃ q16,a15=some q16∧∃ s17,aa H2 (q16.add (Int.toNat (wW (n2+n11))*1))=some (sV s17)∧aK PP (Builtin.delete_ #[141,9] 0 #[.map r13,sV s17]) (fun v18 H3=>True∧I9 [iV (wW (n11+1))] H3∧μ9 [iV (wW (n11+1))] H3<μ9 w10 H2) H2) (∃ q19,p1=some q19∧∃ a20 l20 c20,aa H2 (q19.add 1)=some (lV a20 l20 c20)∧((0:Int)<=n2∧n2<=(c20:Int))∧∃ q21,p1=some q21∧Wr H2 (q21.add 1)∧Q (iV 0) (av H2 (q21.add 1) (lV a20 (Int.toNat n2) c20))))))) H
theorem AO {p1:Option Addr}{n2:Int} (h:FM p1 n2 Q H):ac PP 163 #[.pointer p1,.int .i64 n2] Q H :=
 aW good Tryz.func163 rfl (Ls:=fun | 6=>some [(28,3)] | _=>none) (by kernel_rfl) h
abbrev Dx:Nat:=183
def Hu (n1:Int) (n2:Int) (Q:QT) (H:ae):Prop :=
 ac PP 297 #[iV n1,iV n2,iV (wW (n1+n2))] (fun v3 H1=>∃ n4 n5,v3=.tuple #[iV n4,iV n5]∧Q (.tuple #[iV n4,iV n5]) H1) H
theorem zR {n1:Int}{n2:Int} (h:Hu n1 n2 Q H):ac PP 183 #[.int .i64 n1,.int .i64 n2] Q H :=
 okF Tryz.func183 rfl h
abbrev E6:Nat:=184
def Kq (n1:Int) (n2:Int) (Q:QT) (H:ae):Prop :=
 ac PP 297 #[iV n1,iV n2,iV (wW (n1-n2))] (fun v3 H1=>∃ n4 n5,v3=.tuple #[iV n4,iV n5]∧Q (.tuple #[iV n4,iV n5]) H1) H
theorem xx {n1:Int}{n2:Int} (h:Kq n1 n2 Q H):ac PP 184 #[.int .i64 n1,.int .i64 n2] Q H :=
 okF Tryz.func184 rfl h
abbrev Fd:Nat:=185
def Ga (n1:Int) (n2:Int) (Q:QT) (H:ae):Prop :=
 ac PP 297 #[iV n1,iV n2,iV (wW (n1*n2))] (fun v3 H1=>∃ n4 n5,v3=.tuple #[iV n4,iV n5]∧Q (.tuple #[iV n4,iV n5]) H1) H
theorem xC {n1:Int}{n2:Int} (h:Ga n1 n2 Q H):ac PP 185 #[.int .i64 n1,.int .i64 n2] Q H :=
 okF Tryz.func185 rfl h
abbrev Cr:Nat:=186
def HX (n1:Int) (n2:Int) (Q:QT) (H:ae):Prop :=
 ac PP 298 #[iV n1,iV n2] (fun v3 H1=>∃ n4 n5 n6,v3=.tuple #[iV n4,iV n5,iV n6]∧Q (.tuple #[iV n4,iV n6]) H1) H
theorem y7 {n1:Int}{n2:Int} (h:HX n1 n2 Q H):ac PP 186 #[.int .i64 n1,.int .i64 n2] Q H :=
 okF Tryz.func186 rfl h
abbrev DV:Nat:=187
def Ig (n1:Int) (n2:Int) (Q:QT) (H:ae):Prop :=
 ac PP 298 #[iV n1,iV n2] (fun v3 H1=>∃ n4 n5 n6,v3=.tuple #[iV n4,iV n5,iV n6]∧Q (.tuple #[iV n5,iV n6]) H1) H
theorem Ae {n1:Int}{n2:Int} (h:Ig n1 n2 Q H):ac PP 187 #[.int .i64 n1,.int .i64 n2] Q H :=
 okF Tryz.func187 rfl h
abbrev D1:Nat:=188
def KI (n1:Int) (n2:Int) (Q:QT) (H:ae):Prop :=
 ac PP 297 #[iV n1,iV n2,iV (ja .i64 n1 n2)] (fun v3 H1=>∃ n4 n5,v3=.tuple #[iV n4,iV n5]∧Q (.tuple #[iV n4,iV n5]) H1) H
theorem xT {n1:Int}{n2:Int} (h:KI n1 n2 Q H):ac PP 188 #[.int .i64 n1,.int .i64 n2] Q H :=
 okF Tryz.func188 rfl h
abbrev Bw:Nat:=189
def Gx (n1:Int) (n2:Int) (Q:QT) (H:ae):Prop :=
 ac PP 297 #[iV n1,iV n2,iV (sy .i64 n1 n2)] (fun v3 H1=>∃ n4 n5,v3=.tuple #[iV n4,iV n5]∧Q (.tuple #[iV n4,iV n5]) H1) H
theorem x6 {n1:Int}{n2:Int} (h:Gx n1 n2 Q H):ac PP 189 #[.int .i64 n1,.int .i64 n2] Q H :=
 okF Tryz.func189 rfl h
abbrev CN:Nat:=190
def IE (n1:Int) (n2:Int) (Q:QT) (H:ae):Prop :=
 ac PP 297 #[iV n1,iV n2,iV (GE .i64 n1 n2)] (fun v3 H1=>∃ n4 n5,v3=.tuple #[iV n4,iV n5]∧Q (.tuple #[iV n4,iV n5]) H1) H
theorem zo {n1:Int}{n2:Int} (h:IE n1 n2 Q H):ac PP 190 #[.int .i64 n1,.int .i64 n2] Q H :=
 okF Tryz.func190 rfl h
abbrev Ev:Nat:=191
def IL (n1:Int) (n2:Int) (Q:QT) (H:ae):Prop :=
 cond (decide (n2<0)) (cond (decide ((wW (0-(if n2<(-31) then (-31) else n2)))<0)) False (cS 297 #[iV n1,iV n2,iV (fe .i64 n1 (wW (0-(if n2<(-31) then (-31) else n2))))] (fun v3 H1=>∃ n4 n5,v3=.tuple #[iV n4,iV n5]∧Q (.tuple #[iV n4,iV n5]) H1) H)) (cond (decide ((if 31<n2 then 31 else n2)<0)) False (cS 297 #[iV n1,iV n2,iV (eA .i64 n1 (if 31<n2 then 31 else n2))] (fun v6 H2=>∃ n7 n8,v6=.tuple #[iV n7,iV n8]∧Q (.tuple #[iV n7,iV n8]) H2) H))
theorem Az {n1:Int}{n2:Int} (h:IL n1 n2 Q H):ac PP 191 #[.int .i64 n1,.int .i64 n2] Q H :=
 okF Tryz.func191 rfl h
abbrev Ex:Nat:=267
def Fw (a1:Option Addr) (l1:Nat) (_c1:Nat) (f1:Nat) (g1:Array Value) (h1:Array Value) (Q:QT) (H:ae):Prop :=
 ∃(I2:IT) (μ2:MT),I2 [iV 0] H∧∀ w3 H1,I2 w3 H1->∀ _g:Nat->Value,∃ n4,w3=[iV n4]∧cond (decide (n4<(l1:Int))) (((0:Int)<=n4∧n4<(l1:Int))∧∃ q5,a1=some q5∧∃ n6,aa H1 (q5.add (Int.toNat n4*1))=some (iV n6)∧ac PP f1 ((g1++#[iV n6])++h1) (fun v7 H2=>∃ b8,v7=.bool b8∧cond b8 (Q (iV n4) H2) (I2 [iV (wW (n4+1))] H2∧μ2 [iV (wW (n4+1))] H2<μ2 w3 H1)) H1) (Q (iV (-1)) H1)
theorem yr {a1:Option Addr}{l1:Nat}{c1:Nat}{f1:Nat}{g1:Array Value}{h1:Array Value} (h:Fw a1 l1 c1 f1 g1 h1 Q H):ac PP 267 #[.slice a1 l1 c1,.func (.func f1) g1 h1] Q H :=
 aW good Tryz.func267 rfl (Ls:=fun | 2=>some [(8,3)] | _=>none) (by kernel_rfl) h
abbrev qP:Nat:=268
def CA (n1:Int) (Q:QT) (H:ae):Prop :=
 ac PP 31 #[iV n1] (fun v2 H1=>∃ b3,v2=.bool b3∧cond (!b3) (Q (.tuple #[iV 0,iV 1]) H1) (Q (.tuple #[iV (sy .i64 (eA .i64 n1 1) 1),iV 0]) H1)) H
theorem sn {n1:Int} (h:CA n1 Q H):ac PP 268 #[.int .i64 n1] Q H :=
 okF Tryz.func268 rfl h
abbrev Dl:Nat:=274
def Kb (n1:Int) (Q:QT) (H:ae):Prop :=
 ac PP 13 #[iV n1] (fun v2 H1=>∃ n3,v2=iV n3∧cond (n3 != 1) (Q (.tuple #[iV 0,iV 10]) H1) (Q (.tuple #[iV (fe .i64 n1 1),iV 0]) H1)) H
theorem zI {n1:Int} (h:Kb n1 Q H):ac PP 274 #[.int .i64 n1] Q H :=
 okF Tryz.func274 rfl h
def Ki (a1:Option Addr) (l1:Nat) (_c1:Nat) (s2:ByteArray) (Q:QT) (H:ae):Prop :=
 ∃(I3:IT) (μ3:MT),I3 [iV 0] H∧∀ w4 H1,I3 w4 H1->∀ _g:Nat->Value,∃ n5,w4=[iV n5]∧cond (decide (n5<(l1:Int))) (((0:Int)<=n5∧n5<(l1:Int))∧∃ q6,a1=some q6∧∃ s7,aa H1 (q6.add (Int.toNat n5*1))=some (sV s7)∧cond (cp s2 s7) (Q (iV n5) H1) (I3 [iV (wW (n5+1))] H1∧μ3 [iV (wW (n5+1))] H1<μ3 w4 H1)) (Q (iV (-1)) H1)
theorem xi {a1:Option Addr}{l1:Nat}{c1:Nat}{s2:ByteArray} (h:Ki a1 l1 c1 s2 Q H):ac PP 278 #[.slice a1 l1 c1,.string s2] Q H :=
 aW good Tryz.func278 rfl (Ls:=fun | 2=>some [(8,3)] | _=>none) (by kernel_rfl) h
abbrev Cj:Nat:=297
def HG (n1:Int) (n2:Int) (n3:Int) (Q:QT) (H:ae):Prop :=
 ac PP 31 #[iV n1] (fun v4 H1=>∃ b5,v4=.bool b5∧cond (!b5) (Q (.tuple #[iV 0,iV 1]) H1) (cS 31 #[iV n2] (fun v6 H2=>∃ b7,v6=.bool b7∧cond (!b7) (Q (.tuple #[iV 0,iV 1]) H2) (cS 352 #[iV n3] (fun v8 H3=>∃ n9,v8=iV n9∧Q (.tuple #[iV n9,iV 0]) H3) H2)) H1)) H
theorem yU {n1:Int}{n2:Int}{n3:Int} (h:HG n1 n2 n3 Q H):ac PP 297 #[.int .i64 n1,.int .i64 n2,.int .i64 n3] Q H :=
 okF Tryz.func297 rfl h
abbrev DI:Nat:=298
def HQ (n1:Int) (n2:Int) (Q:QT) (H:ae):Prop :=
 ac PP 31 #[iV n1] (fun v3 H1=>∃ b4,v3=.bool b4∧cond (!b4) (Q (.tuple #[iV 0,iV 0,iV 1]) H1) (cS 31 #[iV n2] (fun v5 H2=>∃ b6,v5=.bool b6∧cond (!b6) (Q (.tuple #[iV 0,iV 0,iV 1]) H2) (cond (n2 == 0) (Q (.tuple #[iV 0,iV 0,iV 11]) H2) (cond (decide (n2=0)) False (cond (decide (n2=0)) False (cond ((Int.tmod n1 n2) != 0) (cond (!((decide ((Int.tmod n1 n2)<0)) == (decide (n2<0)))) (cS 352 #[iV (wW ((wW (Int.tdiv n1 n2))-1))] (fun v7 H3=>∃ n8,v7=iV n8∧Q (.tuple #[iV n8,iV (wW ((Int.tmod n1 n2)+n2)),iV 0]) H3) H2) (cS 352 #[iV (wW (Int.tdiv n1 n2))] (fun v9 H4=>∃ n10,v9=iV n10∧Q (.tuple #[iV n10,iV (Int.tmod n1 n2),iV 0]) H4) H2)) (cS 352 #[iV (wW (Int.tdiv n1 n2))] (fun v11 H5=>∃ n12,v11=iV n12∧Q (.tuple #[iV n12,iV (Int.tmod n1 n2),iV 0]) H5) H2)))))) H1)) H
theorem z7 {n1:Int}{n2:Int} (h:HQ n1 n2 Q H):ac PP 298 #[.int .i64 n1,.int .i64 n2] Q H :=
 okF Tryz.func298 rfl h
abbrev Fg:Nat:=301
def KA (n1:Int) (Q:QT) (H:ae):Prop :=
 ac PP 31 #[iV n1] (fun v2 H1=>∃ b3,v2=.bool b3∧cond (!b3) (Q (.tuple #[sV (⟨#[]⟩:ByteArray),iV 1]) H1) (cS 353 #[iV n1] (fun v4 H2=>∃ s5,v4=sV s5∧Q (.tuple #[sV s5,iV 0]) H2) H1)) H
theorem xJ {n1:Int} (h:KA n1 Q H):ac PP 301 #[.int .i64 n1] Q H :=
 okF Tryz.func301 rfl h
abbrev EA:Nat:=336
def IV (n1:Int) (Q:QT) (H:ae):Prop :=
 ac PP 13 #[iV n1] (fun v2 H1=>∃ n3,v2=iV n3∧cond (n3 != 2) (Q (.tuple #[iV 0,iV 10]) H1) (Q (.tuple #[iV (fe .i64 n1 2),iV 0]) H1)) H
theorem AE {n1:Int} (h:IV n1 Q H):ac PP 336 #[.int .i64 n1] Q H :=
 okF Tryz.func336 rfl h
abbrev BZ:Nat:=337
def FL (p1:Option Addr) (n2:Int) (Q:QT) (H:ae):Prop :=
 ac PP 90 #[pV p1] (fun v3 H1=>∃ b4,v3=.bool b4∧cond b4 (Q (.tuple #[sV (⟨#[]⟩:ByteArray),iV 2]) H1) (cond (decide (n2<0)) (Q (.tuple #[sV (⟨#[]⟩:ByteArray),iV 61]) H1) (∃ q5,p1=some q5∧∃ a6 l6 c6,aa H1 (q5.add 1)=some (lV a6 l6 c6)∧cond (decide (n2 ≥ (l6:Int))) (Q (.tuple #[sV (⟨#[]⟩:ByteArray),iV 61]) H1) (∃ q7,p1=some q7∧∃ a8 l8 c8,aa H1 (q7.add 1)=some (lV a8 l8 c8)∧((0:Int)<=n2∧n2<(l8:Int))∧∃ q9,a8=some q9∧∃ s10,aa H1 (q9.add (Int.toNat n2*1))=some (sV s10)∧Q (.tuple #[sV s10,iV 0]) H1)))) H
theorem yE {p1:Option Addr}{n2:Int} (h:FL p1 n2 Q H):ac PP 337 #[.pointer p1,.int .i64 n2] Q H :=
 okF Tryz.func337 rfl h
abbrev B7:Nat:=352
def Lh (n1:Int) (Q:QT) (H:ae):Prop :=
 Q (iV (fe .i64 (eA .i64 n1 33) 33)) H
theorem yL {n1:Int} (h:Lh n1 Q H):ac PP 352 #[.int .i64 n1] Q H :=
 okF Tryz.func352 rfl h
end Go.Proofs.YtgjfejoohojokaaGreatDoor
namespace Kw
open Go
theorem af {p:Prop} [Decidable p] {X Y:Prop}:cond (decide p) X Y↔if p then X else Y:=by
 by_cases h:p <;> simp [h]
theorem qa {b:Bool}{X Y:Prop}:cond b X Y↔(b=true->X)∧(b=false->Y):=by cases b <;> simp
theorem ap {p:Prop} [Decidable p] {X Y:Prop} (h1:p->X) (h2:¬ p->Y):if p then X else Y:=by
 split
 ·rename_i h;exact h1 h
 ·rename_i h;exact h2 h
theorem ah {n:Int} (h1:-9223372036854775808<=n) (h2:n<=9223372036854775807):IntKind.wrap .i64 n=n:=by
 simp only [IntKind.wrap,IntKind.bits,IntKind.signed]
 simp
 omega
theorem jQ {a b:ByteArray}:cp a b=true↔a=b:=by
 unfold cp
 rw [beq_iff_eq,ByteArray.toList_eq,ByteArray.toList_eq]
 constructor
 ·intro h
  obtain ⟨⟨a⟩⟩:=a
  obtain ⟨⟨b⟩⟩:=b
  simp only at h
  rw [h]
 ·intro h;rw [h]
theorem dS (a b:ByteArray):cp a b=decide (a=b):=by
 rw [Bool.eq_iff_iff,jQ];simp
abbrev az:=List Nat
def Fr (F:az) (H H':ae):Prop:=H.size<=H'.size∧∀ b,b<H.size->b∉F->H'[b]?=H[b]?
theorem Fr.refl (F:az) (H:ae):Fr F H H:=⟨Nat.le_refl _,fun _ _ _=>rfl⟩
theorem Fr.trans {F:az}{H H' H'':ae} (h:Fr F H H') (h':Fr F H' H''):Fr F H H'' :=
 ⟨Nat.le_trans h.1 h'.1,fun b hb hn=>(h'.2 b (Nat.lt_of_lt_of_le hb h.1) hn).trans (h.2 b hb hn)⟩
theorem Fr.mono {F F':az}{H H':ae} (h:Fr F H H') (hs:∀ b∈F,b∈F'):Fr F' H H':=⟨h.1,fun b hb hn=>h.2 b hb fun hm=>hn (hs b hm)⟩
theorem Fr.of_nil {F:az}{H H':ae} (h:Fr [] H H'):Fr F H H':=h.mono (by simp)
theorem Fr.push (F:az) (H:ae) (o:Obj):Fr F H (H.push o):=⟨by simp,fun b hb _=>by rw [Array.getElem?_push];simp;omega⟩
def Up (F:az) (H:ae) (F':az) (H':ae):Prop:=Fr F H H'∧∀ b∈F',b∈F∨H.size<=b
theorem Up.refl (F:az) (H:ae):Up F H F H:=⟨Fr.refl F H,fun _ h=>.inl h⟩
theorem Up.trans {F F' F'':az}{H H' H'':ae} (h:Up F H F' H') (h':Up F' H' F'' H''):Up F H F'' H'':=by
 refine ⟨⟨Nat.le_trans h.1.1 h'.1.1,fun b hb hn=>?_⟩,fun b hb=>?_⟩
 ·rw [h'.1.2 b (Nat.lt_of_lt_of_le hb h.1.1) fun hm=>(h.2 b hm).elim hn (fun hge=>absurd hb (by omega)),h.1.2 b hb hn]
 ·rcases h'.2 b hb with h1 | h1
  ·exact h.2 b h1
  ·exact .inr (Nat.le_trans h.1.1 h1)
def aV (H:ae) (b:Nat) (c:Array Value):Prop:=∃ t,H[b]?=some (.cells c t (0,0))
theorem aV.lt {H:ae}{b:Nat}{c:Array Value} (h:aV H b c):b<H.size:=by
 obtain ⟨t,h⟩:=h;exact (Array.getElem?_eq_some_iff.1 h).1
theorem aV.cell {H:ae}{b:Nat}{c:Array Value} (h:aV H b c) (o:Nat):aa H ⟨b,o,none⟩=c[o]?:=by
 obtain ⟨t,h⟩:=h;simp [aa,h]
theorem aV.frozen {H:ae}{b:Nat}{c:Array Value} (h:aV H b c) (o:Nat):kR H ⟨b,o,none⟩=false:=by
 obtain ⟨t,h⟩:=h;simp [kR,h]
theorem aV.wr {H:ae}{b:Nat}{c:Array Value} (h:aV H b c){o:Nat} (ho:o<c.size):Wr H ⟨b,o,none⟩ :=
 ⟨⟨c[o],by rw [h.cell];simp [ho]⟩,h.frozen o⟩
theorem aV.uniq {H:ae}{b:Nat}{c c':Array Value} (h:aV H b c) (h':aV H b c'):c=c':=by
 obtain ⟨t,h⟩:=h;obtain ⟨t',h'⟩:=h';rw [h] at h';cases h';rfl
theorem aV.of_eq {H H':ae}{b:Nat}{c:Array Value} (h:aV H b c) (he:H'[b]?=H[b]?):aV H' b c:=by
 obtain ⟨t,h⟩:=h;exact ⟨t,he.trans h⟩
theorem aV.fr {F:az}{H H':ae}{b:Nat}{c:Array Value} (h:aV H b c) (hf:Fr F H H') (hb:b∉F):aV H' b c:=h.of_eq (hf.2 b h.lt hb)
theorem aV.push {H:ae}{b:Nat}{c:Array Value} (h:aV H b c) (o:Obj):aV (H.push o) b c:=h.fr (Fr.push [] H o) (by simp)
theorem aV.new (H:ae) (c:Array Value) (t:TypeId):aV (H.push (.cells c t)) H.size c:=⟨t,by simp⟩
theorem bt (H:ae) (a:Addr) (v:Value):(av H a v).size=H.size:=by simp [av]
theorem ce {H:ae}{a:Addr}{v:Value}{b:Nat} (h:b≠a.block):(av H a v)[b]?=H[b]?:=by
 simp [av,Array.getElem?_modify,Ne.symm h]
theorem aV.set {H:ae}{b:Nat}{c:Array Value} (h:aV H b c) (o:Nat) (v:Value):aV (av H ⟨b,o,none⟩ v) b (c.setIfInBounds o v):=by
 obtain ⟨t,h⟩:=h
 exact ⟨t,by simp [av,Array.getElem?_modify,h]⟩
theorem aV.set_ne {H:ae}{b:Nat}{c:Array Value} (h:aV H b c){a:Addr} (hb:b≠a.block) (v:Value):aV (av H a v) b c:=h.of_eq (ce hb)
theorem Fr.set {F:az}{H:ae}{a:Addr}{v:Value} (h:a.block∈F):Fr F H (av H a v) :=
 ⟨by rw [bt];exact Nat.le_refl _,fun b _ hn=>ce fun e=>hn (e ▸ h)⟩
@[simp] theorem al (b o n:Nat):(⟨b,o,none⟩:Addr).add n=⟨b,o+n,none⟩:=by
 unfold Addr.add;split <;> simp_all
theorem vn {P:Program}{α β:Type} (m:Sem α) (f:α->Sem β):∀ {Q:β->ae->Prop}{H:ae},aK P m (fun a H'=>aK P (f a) Q H') H->aK P (m.bind f) Q H:=by
 induction m with
 | pure a=>exact fun h=>h
 | load m a k ih=>exact fun ⟨v,hv,h⟩=>⟨v,hv,ih v h⟩
 | store m a v k ih=>exact fun ⟨h1,h2,h⟩=>⟨h1,h2,ih h⟩
 | new o k ih=>exact fun {Q H} h=>ih H.size h
 | shape r k ih=>exact fun h=>ih _ h
 | freeze a n k ih=>exact fun h=>ih h
 | frozen a k ih=>exact fun h=>ih _ h
 | getObj r k ih=>exact fun ⟨o,h1,h2,h⟩=>⟨o,h1,h2,ih o h⟩
 | setObj r o k ih=>exact fun ⟨h1,h⟩=>⟨h1,ih h⟩
 | choose q k ih =>
  intro Q H h
  simp only [Sem.bind,aK] at h ⊢
  split at h
  ·rename_i hf;rw [if_pos hf];exact ih 0 h
  ·rename_i hf;rw [if_neg hf];exact fun t=>ih _ (h t)
 | sys c k ih=>exact fun h=>h.elim
 | program k ih=>exact fun h=>ih P h
 | mark m k ih=>exact fun h=>ih h
 | halt h=>exact fun h=>h.elim
theorem ak {P:Program}{α β:Type}{m:Sem α}{f:α->Sem β}{Q:β->ae->Prop}{H:ae} (h:aK P m (fun a H'=>aK P (f a) Q H') H):aK P (m >>= f) Q H:=vn m f h
theorem aJ {P:Program}{t:TypeId}{d:TypeDesc} (hu:P.underlying t=some d){Q:TypeDesc->ae->Prop}{H:ae} (h:Q d H):aK P (underlying t) Q H:=by
 show aK P (match P.underlying t with | some d => pure d | none => stuck "no such type") Q H
 rw [hu];exact h
theorem bP {P:Program}{t:TypeId}{d:TypeInfo} (hu:P.info? t=some d){Q:TypeInfo->ae->Prop}{H:ae} (h:Q d H):aK P (typeInfo t) Q H:=by
 show aK P (match P.info? t with | some d => pure d | none => stuck "no such type") Q H
 rw [hu];exact h
theorem uh {P:Program}{src dst e:TypeId}{s:ByteArray}{Q:Value->ae->Prop}{H:ae} (h1:P.underlying src=some .string) (h2:P.underlying dst=some (.slice e)) (h3:P.underlying e=some (.int .u8))
  (h:∀ cap H',Fr [] H H'->(∀ i,i<s.size->aa H' ⟨H.size,i,none⟩=some (.int .u8 (((s[i]?.getD 0).toNat:Nat):Int)))->Q (.slice (some ⟨H.size,0,none⟩) s.size cap) H'):aK P (convert src dst (.string s)) Q H:=by
 refine ak (aJ h1 (ak (aJ h2 (ak (aJ h3 ?_)))))
 show aK P (Conv.stringToBytes e s) Q H
 unfold Conv.stringToBytes
 simp only [aK,choose,newRow,newObj,bind,Sem.bind,Question.forced,Bool.false_eq_true,if_false,pure]
 intro t
 generalize hcs:((s.data.map fun b=>Value.int .u8 b.toNat)++Array.replicate (Question.cut (.appendCap s.size 0 e) t-s.size) (.int .u8 0))=cs
 have hsh:gR (H.push (.cells cs e)) H.size=some (e,cs.size):=by simp [gR]
 simp only [markStringish,bind,Sem.bind,aK,shape,hsh,freeze,pure]
 refine h _ _ ?_ ?_
 ·refine ⟨by simp [cN],fun b hb _=>?_⟩
  simp only [cN,Nat.succ_ne_self,if_false,Array.getElem?_modify]
  rw [if_neg (by omega),Array.getElem?_push,if_neg (by omega)]
 ·intro i hi
  have hc:cs[i]?=some (.int .u8 (((s[i]?.getD 0).toNat:Nat):Int)):=by
   rw [←hcs,Array.getElem?_append_left (by simpa using hi)]
   simp [hi]
   rfl
  have hb:(cN (H.push (.cells cs e)) ⟨H.size,cs.size,none⟩ 1)[H.size]?=some (.cells cs e (cs.size,cs.size+1)):=by
   simp only [cN,Nat.succ_ne_self,if_false,Array.getElem?_modify,Array.getElem?_push_size,if_true,Option.map_some,beq_self_eq_true]
  have hb':aa (cN (H.push (.cells cs e)) ⟨H.size,cs.size,none⟩ 1) ⟨H.size,i,none⟩=cs[i]?:=by
   unfold aa;simp only [hb];rfl
  rw [←hc];exact hb'
end Kw
namespace Kw
open Go
def aD (w:Int):Int :=
 if w % 2=1∧-2147483647<=w∧w<=2147483647 then 1
 else if w % 4=2∧0<=w∧w<16384 then 2
 else if w % 4=0∧0<w∧w<=262144 then 3
 else 0
def cR (w:Int):Prop:=aD w≠0
instance (w:Int):Decidable (cR w):=inferInstanceAs (Decidable (aD w≠0))
def Hx (n:Int):Prop:=-9223372036854775808<=n∧n<=9223372036854775807
theorem fv (x:Int):((BitVec.ofInt 64 x).toNat:Int)=x % 18446744073709551616:=by
 rw [BitVec.toNat_ofInt]
 have:(0:Int)<=x % ((2 ^ 64:Nat):Int):=Int.emod_nonneg _ (by decide)
 omega
theorem gn {n:Int} (h0:0<=n) (h1:n<=9223372036854775807):IntKind.wrap .i64 n=n:=ah (by omega) h1
theorem kb (x:Int) (k m:Nat) (hm:m=2 ^ k-1) (hk:k<=62):ja .i64 x (m:Int)=x % ((2 ^ k:Nat):Int):=by
 have hpos:0<2 ^ k:=Nat.two_pow_pos k
 have hle:2 ^ k<=2 ^ 62:=Nat.pow_le_pow_right (by decide) hk
 have h62:(2:Nat) ^ 62=4611686018427387904:=by decide
 have e1:(BitVec.ofInt 64 x &&& BitVec.ofInt 64 (m:Int)).toNat=(BitVec.ofInt 64 x).toNat % 2 ^ k:=by
  rw [BitVec.toNat_and]
  have:(BitVec.ofInt 64 (m:Int)).toNat=2 ^ k-1:=by
   have:=fv (m:Int)
   omega
  rw [this,Nat.and_two_pow_sub_one_eq_mod]
 have e2:(((BitVec.ofInt 64 x).toNat % 2 ^ k:Nat):Int)=x % ((2 ^ k:Nat):Int):=by
  have h1:=fv x
  push_cast
  rw [h1]
  have hd:((2:Int) ^ k) ∣ 18446744073709551616:=by
   have:(18446744073709551616:Int)=2 ^ k*2 ^ (64-k):=by
    rw [←Int.pow_add,show k+(64-k)=64 by omega];decide
   exact ⟨_,this⟩
  exact Int.emod_emod_of_dvd x hd
 unfold ja
 show IntKind.wrap .i64 (((BitVec.ofInt 64 x &&& BitVec.ofInt 64 (m:Int)).toNat:Nat):Int)=_
 rw [e1,e2]
 have h3:0<=x % ((2 ^ k:Nat):Int):=Int.emod_nonneg _ (by omega)
 have h4:x % ((2 ^ k:Nat):Int)<((2 ^ k:Nat):Int):=Int.emod_lt_of_pos _ (by omega)
 exact gn h3 (by omega)
theorem FI (x:Int):ja .i64 x 3=x % 4:=kb x 2 3 rfl (by decide)
theorem ti (x:Int):ja .i64 x 1=x % 2:=kb x 1 1 rfl (by decide)
theorem xZ (x:Int):ja .i64 x 255=x % 256:=kb x 8 255 rfl (by decide)
theorem od (x:Int) (k:Nat) (hk:k<=64):fe .i64 x (k:Int)=x / ((2 ^ k:Nat):Int):=by
 unfold fe
 have:min (Int.toNat (k:Int)) (IntKind.bits .i64)=k:=by simp only [Int.toNat_natCast,IntKind.bits];omega
 rw [this,Int.fdiv_eq_ediv_of_nonneg _ (Int.pow_nonneg (by decide))]
 push_cast
 rfl
theorem yJ (x:Int):fe .i64 x 1=x / 2:=od x 1 (by decide)
theorem Dw (x:Int):fe .i64 x 2=x / 4:=od x 2 (by decide)
theorem jl (x:Int) (k:Nat) (hk:k<=64) (h:Hx (x*((2 ^ k:Nat):Int))):eA .i64 x (k:Int)=x*((2 ^ k:Nat):Int):=by
 unfold eA
 have:min (Int.toNat (k:Int)) (IntKind.bits .i64)=k:=by simp only [Int.toNat_natCast,IntKind.bits];omega
 rw [this]
 have e:x*2 ^ k=x*((2 ^ k:Nat):Int):=by push_cast;rfl
 rw [e]
 exact ah h.1 h.2
theorem lN (x:Int) (k m:Nat) (hk:k<=62) (hm:m<2 ^ k) (h:Hx x) (hx:x % ((2 ^ k:Nat):Int)=0):sy .i64 x (m:Int)=x+m:=by
 have hle:2 ^ k<=2 ^ 62:=Nat.pow_le_pow_right (by decide) hk
 have h62:(2:Nat) ^ 62=4611686018427387904:=by decide
 have hpos:0<2 ^ k:=Nat.two_pow_pos k
 unfold sy
 show IntKind.wrap .i64 (((BitVec.ofInt 64 x ||| BitVec.ofInt 64 (m:Int)).toNat:Nat):Int)=_
 rw [BitVec.toNat_or]
 have hmn:(BitVec.ofInt 64 (m:Int)).toNat=m:=by have:=fv (m:Int);omega
 have hxn:=fv x
 obtain ⟨q,hq⟩:∃ q,(BitVec.ofInt 64 x).toNat=2 ^ k*q:=by
  have hd:((2 ^ k:Nat):Int) ∣ 18446744073709551616:=by
   have:(18446744073709551616:Int)=((2 ^ k:Nat):Int)*((2 ^ (64-k):Nat):Int):=by
    rw [←Int.natCast_mul,←Nat.pow_add,show k+(64-k)=64 by omega];decide
   exact ⟨_,this⟩
  have h0:(((BitVec.ofInt 64 x).toNat:Int)) % ((2 ^ k:Nat):Int)=0:=by
   rw [hxn,Int.emod_emod_of_dvd x hd,hx]
  exact Nat.dvd_of_mod_eq_zero (by exact_mod_cast h0)
 rw [hmn,hq,←Nat.two_pow_add_eq_or_of_lt hm,←hq]
 push_cast
 rw [hxn]
 simp only [IntKind.wrap,IntKind.bits,IntKind.signed]
 obtain ⟨h1,h2⟩:=h
 simp
 have hx2:x+(m:Int)<9223372036854775808:=by
  obtain ⟨r,hr⟩:=Int.dvd_of_emod_eq_zero hx
  have h9:(9223372036854775808:Int)=((2 ^ k:Nat):Int)*((2 ^ (63-k):Nat):Int):=by
   rw [←Int.natCast_mul,←Nat.pow_add,show k+(63-k)=63 by omega];decide
  have hr':r<((2 ^ (63-k):Nat):Int):=by
   by_cases h:r<((2 ^ (63-k):Nat):Int)
   ·exact h
   ·have h:((2 ^ (63-k):Nat):Int)<=r:=by omega
    have:=Int.mul_le_mul_of_nonneg_left h (by omega:(0:Int)<=((2 ^ k:Nat):Int))
    omega
  have:((2 ^ k:Nat):Int)*(r+1)<=((2 ^ k:Nat):Int)*((2 ^ (63-k):Nat):Int):=Int.mul_le_mul_of_nonneg_left (by omega) (by omega)
  rw [Int.mul_add,Int.mul_one] at this
  omega
 omega
theorem Lm (n:Int) (h:Hx (2*n)):sy .i64 (2*n) 1=2*n+1:=lN (2*n) 1 1 (by decide) (by decide) h (by simp)
theorem Lx (n:Int) (h:Hx (4*n)):sy .i64 (4*n) 2=4*n+2:=lN (4*n) 2 2 (by decide) (by decide) h (by simp)
theorem xv (x k:Int) (hk:0<k):Int.tmod x k=if 0<=x then x % k else -((-x) % k):=by
 split
 ·rename_i h;exact Int.tmod_eq_emod_of_nonneg h
 ·rename_i h
  have:Int.tmod x k=-Int.tmod (-x) k:=by rw [Int.neg_tmod,Int.neg_neg]
  rw [this,Int.tmod_eq_emod_of_nonneg (by omega)]
theorem tg (x k:Int):Int.tdiv x k=if 0<=x then x / k else -((-x) / k):=by
 split
 ·rename_i h;exact Int.tdiv_eq_ediv_of_nonneg h
 ·rename_i h
  have:Int.tdiv x k=-Int.tdiv (-x) k:=by rw [Int.neg_tdiv,Int.neg_neg]
  rw [this,Int.tdiv_eq_ediv_of_nonneg (by omega)]
theorem aX (a b:Int):(a == b)=decide (a=b):=by rw [Bool.eq_iff_iff];simp
theorem aY (a b:Int):(a != b)=decide (a≠b):=by rw [Bool.eq_iff_iff];simp
theorem aS (w:Int):(aD w=1∧w % 2=1∧-2147483647<=w∧w<=2147483647)∨(aD w=2∧w % 4=2∧0<=w∧w<16384)∨(aD w=3∧w % 4=0∧0<w∧w<=262144) ∨
  (aD w=0∧¬ (w % 2=1∧-2147483647<=w∧w<=2147483647)∧¬ (w % 4=2∧0<=w∧w<16384)∧¬ (w % 4=0∧0<w∧w<=262144)):=by
 unfold aD
 split
 ·rename_i h;exact .inl ⟨rfl,h⟩
 ·split
  ·rename_i h;exact .inr (.inl ⟨rfl,h⟩)
  ·split
   ·rename_i h;exact .inr (.inr (.inl ⟨rfl,h⟩))
   ·rename_i h1 h2 h3;exact .inr (.inr (.inr ⟨rfl,h1,h2,h3⟩))
end Kw
namespace Go.Proofs.YtgjfejoohojokaaGreatDoor
open Kw
def cq (H:ae):Prop:=aa H ⟨ax,0,none⟩=some (.int .i64 3)∧aa H ⟨ax,1,none⟩=some (.int .i64 1)∧aa H ⟨ax,2,none⟩=some (.int .i64 2)∧aa H ⟨ax,3,none⟩=some (.int .i64 1)
theorem cq.fr {F:az}{H H':ae} (h:cq H) (hf:Fr F H H') (hn:ax∉F):cq H':=by
 have hb:ax<H.size:=by
  have h0:=h.1
  unfold aa at h0
  rcases Nat.lt_or_ge ax H.size with h1 | h1
  ·exact h1
  ·simp only [Array.getElem?_eq_none h1] at h0;cases h0
 have he:=hf.2 _ hb hn
 unfold cq aa at *
 simp only [he]
 exact h
theorem xY {n:Int}{Q:QT}{H:ae} (h:Q (.bool (decide (-1073741824<=n∧n<=1073741823))) H):ac PP A7 #[.int .i64 n] Q H:=by
 apply vW
 unfold Lc
 simp only [af]
 split
 ·rename_i h1;have h1:-1073741824<=n:=h1;simpa [h1] using h
 ·rename_i h1;have h1:¬ -1073741824<=n:=h1;simpa [h1] using h
theorem fS {w:Int}{Q:QT}{H:ae} (hk:cq H) (h:Q (.int .i64 (aD w)) H):ac PP IK #[.int .i64 w] Q H:=by
 apply EB
 unfold Me A0 iV cS
 have fin:∀ c,aD w=c->Q (.int .i64 c) H:=fun c hc=>hc ▸ h
 simp only [FI,yJ,Dw,al,Nat.zero_add,Nat.mul_one,aX,af]
 refine ⟨⟨by omega,by omega⟩,?_⟩
 obtain ⟨k0,k1,k2,k3⟩:=hk
 have hm:w % 4=0∨w % 4=1∨w % 4=2∨w % 4=3:=by omega
 have kc:=aS w
 rcases hm with hm | hm | hm | hm <;> rw [hm]
 ·refine ⟨3,k0,?_⟩
  simp only [show ¬ (3:Int)=1 by decide,show ¬ (3:Int)=2 by decide,if_false,if_true]
  repeat' split
  all_goals exact fin _ (by omega)
 ·refine ⟨1,k1,?_⟩
  simp only [if_true,show ¬ (1:Int)=3 by decide,show ¬ (1:Int)=2 by decide,if_false]
  refine xY ⟨_,rfl,?_⟩
  simp only [qa]
  refine ⟨fun h1=>fin _ ?_,fun h1=>fin _ ?_⟩
  ·have:¬ (-1073741824<=w / 2∧w / 2<=1073741823):=by rw [Bool.not_eq_true'] at h1;exact of_decide_eq_false h1
   omega
  ·have:(-1073741824<=w / 2∧w / 2<=1073741823):=by simpa using h1
   omega
 ·refine ⟨2,k2,?_⟩
  simp only [show ¬ (2:Int)=1 by decide,show ¬ (2:Int)=3 by decide,if_false,if_true]
  repeat' split
  all_goals exact fin _ (by omega)
 ·refine ⟨1,k3,?_⟩
  simp only [if_true,show ¬ (1:Int)=3 by decide,show ¬ (1:Int)=2 by decide,if_false]
  refine xY ⟨_,rfl,?_⟩
  simp only [qa]
  refine ⟨fun h1=>fin _ ?_,fun h1=>fin _ ?_⟩
  ·have:¬ (-1073741824<=w / 2∧w / 2<=1073741823):=by rw [Bool.not_eq_true'] at h1;exact of_decide_eq_false h1
   omega
  ·have:(-1073741824<=w / 2∧w / 2<=1073741823):=by simpa using h1
   omega
theorem Bc {n:Int}{Q:QT}{H:ae} (hn:-1073741824<=n∧n<=1073741823) (h:Q (.tuple #[.int .i64 (2*n+1),.int .i64 0]) H):ac PP qP #[.int .i64 n] Q H:=by
 apply sn
 unfold CA iV
 refine xY ⟨_,rfl,?_⟩
 have e:eA .i64 n 1=2*n:=by
  have:=jl n 1 (by decide) ⟨by simp;omega,by simp;omega⟩
  simpa [Int.mul_comm] using this
 rw [e,Lm n ⟨by omega,by omega⟩]
 simpa [hn] using h
theorem vO {n:Int}{Q:QT}{H:ae} (hn:0<=n∧n<4096) (h:Q (.tuple #[.int .i64 (4*n+2),.int .i64 0]) H):ac PP DZ #[.int .i64 n] Q H:=by
 apply Aj
 unfold Ip iV
 have e:eA .i64 n 2=4*n:=by
  have:=jl n 2 (by decide) ⟨by simp;omega,by simp;omega⟩
  simpa [Int.mul_comm] using this
 rw [e,Lx n ⟨by omega,by omega⟩]
 simp only [af]
 rw [if_neg (by omega),if_neg (by omega)]
 exact h
theorem ky {n:Int}{Q:QT}{H:ae} (hn:1<=n∧n<=65536) (h:Q (.tuple #[.int .i64 (4*n),.int .i64 0]) H):ac PP wa #[.int .i64 n] Q H:=by
 apply wC
 unfold Lj iV
 have e:eA .i64 n 2=4*n:=by
  have:=jl n 2 (by decide) ⟨by simp;omega,by simp;omega⟩
  simpa [Int.mul_comm] using this
 rw [e]
 simp only [af]
 rw [if_neg (by omega),if_neg (by omega)]
 exact h
theorem DB {n:Int}{Q:QT}{H:ae} (hn:n<1∨65536<n) (h:Q (.tuple #[.int .i64 0,.int .i64 1]) H):ac PP wa #[.int .i64 n] Q H:=by
 apply wC
 unfold Lj iV
 simp only [af]
 split
 ·exact h
 ·rw [if_pos (by omega)];exact h
def iE (k:Int) (f:Int->Int) (w:Int):Value:=if aD w=k then .tuple #[.int .i64 (f w),.int .i64 0] else .tuple #[.int .i64 0,.int .i64 10]
theorem lP {w:Int}{Q:QT}{H:ae} (hk:cq H) (h:Q (iE 1 (· / 2) w) H):ac PP Dl #[.int .i64 w] Q H:=by
 apply zI
 unfold Kb iV
 refine fS hk ⟨_,rfl,?_⟩
 simp only [aY,af,yJ]
 unfold iE at h
 split
 ·rename_i h1;rw [if_neg h1] at h;exact h
 ·rename_i h1;rw [if_pos (by simpa using h1)] at h;exact h
theorem oN {w:Int}{Q:QT}{H:ae} (hk:cq H) (h:Q (iE 2 (· / 4) w) H):ac PP EA #[.int .i64 w] Q H:=by
 apply AE
 unfold IV iV
 refine fS hk ⟨_,rfl,?_⟩
 simp only [aY,af,Dw]
 unfold iE at h
 split
 ·rename_i h1;rw [if_neg h1] at h;exact h
 ·rename_i h1;rw [if_pos (by simpa using h1)] at h;exact h
theorem fG {w:Int}{Q:QT}{H:ae} (hk:cq H) (h:Q (iE 3 (· / 4) w) H):ac PP IC #[.int .i64 w] Q H:=by
 apply BI
 unfold Mb iV
 refine fS hk ⟨_,rfl,?_⟩
 simp only [aY,af,Dw]
 unfold iE at h
 split
 ·rename_i h1;rw [if_neg h1] at h;exact h
 ·rename_i h1;rw [if_pos (by simpa using h1)] at h;exact h
theorem cg {n:Int}{Q:QT}{H:ae} (hn:1<=n∧n<=65536) (h:Q (.int .i64 (4*n)) H):ac PP Gm #[.int .i64 n] Q H:=by
 apply CF
 exact ky hn ⟨_,_,rfl,h⟩
theorem ib {n:Int}{Q:QT}{H:ae} (hn:-1073741824<=n∧n<=1073741823) (h:Q (.int .i64 (2*n+1)) H):ac PP Ef #[.int .i64 n] Q H:=by
 apply x0
 exact Bc hn ⟨_,_,rfl,h⟩
end Go.Proofs.YtgjfejoohojokaaGreatDoor
namespace Kw
open Go
def aI (P:Program) (t:TypeId):Option (Nat × Nat × Option Value) :=
 match P.underlying t with
 | some (.slice e)=>(P.info? e).map fun i=>(i.size,i.bytes,i.zero)
 | _=>none
theorem dM {P:Program}{t k bs:Nat}{z:Option Value} (h:aI P t=some (k,bs,z)):∃ e i,P.underlying t=some (.slice e)∧P.info? e=some i∧i.size=k∧i.bytes=bs∧i.zero=z:=by
 unfold aI at h
 split at h
 ·rename_i e he
  cases hi:P.info? e with
  | none=>simp [hi] at h
  | some i=>simp [hi] at h;exact ⟨e,i,he,hi,h⟩
 ·cases h
section evS
variable {P:Program}{H:ae}
theorem ga {t:TypeId}{i:TypeInfo} (hi:P.info? t=some i){Q:Nat->ae->Prop} (h:Q i.size H):aK P (Go.sizeOf t) Q H :=
 ak (bP hi h)
theorem cK {t:TypeId}{i:TypeInfo}{z:Value} (hi:P.info? t=some i) (hz:i.zero=some z){Q:Value->ae->Prop} (h:Q z H):aK P (zeroValue t) Q H :=
 ak (bP hi (by rw [hz];exact h))
theorem cB {α:Type}{a:α}{Q:α->ae->Prop} (h:Q a H):aK P (Sem.pure a) Q H:=h
theorem gT {n:Nat}{Q:Unit->ae->Prop} (h:Q () H):aK P (askRoom n) Q H:=by
 unfold askRoom
 split
 ·exact h
 ·exact h
theorem uu (z:Value) (n:Nat) (hz:z.cells=#[z]):(Array.range n).map (fun i=>z.cells[i % z.cells.size]!)=Array.replicate n z:=by
 rw [hz]
 apply Array.ext
 ·simp
 ·intro i h1 h2
  simp [Nat.mod_one]
theorem cI {T:TypeId}{bs:Nat}{z:Value}{l c:Int}{Q:Value->ae->Prop} (hs:aI P T=some (1,bs,some z)) (hz:z.cells=#[z]) (h0:0<=l) (h1:l<=c) (h2:c<=1099511627776) (hb:bs<=128)
  (h:∀ e,Q (.slice (some ⟨H.size,0,none⟩) l.toNat c.toNat) (H.push (.cells (Array.replicate c.toNat z) e))):aK P (Instr.makeSlice T (.int .i64 l) (.int .i64 c)) Q H:=by
 obtain ⟨e,i,hu,hi,hk,hbs,hz0⟩:=dM hs
 unfold Instr.makeSlice
 refine ak (aJ hu ?_)
 refine ak ?_
 show aK P (asInt (.int .i64 l)) _ H
 simp only [asInt,asIntOf,bind,Sem.bind,pure,aK]
 refine ak (bP hi ?_)
 have wl:IntKind.i64.wrap l=l:=ah (by omega) (by omega)
 have wc:IntKind.i64.wrap c=c:=ah (by omega) (by omega)
 have hbc:(bs:Int)*c<=128*1099511627776:=by
  refine Int.le_trans (Int.mul_le_mul_of_nonneg_right (by omega:(bs:Int)<=128) (by omega)) (by omega)
 have hcond:(decide (c<0) || decide ((i.bytes:Int)*c > 2 ^ 48) || decide (l<0) || decide (l > c))=false:=by
  rw [hbs]
  have e1:¬ c<0:=by omega
  have e2:¬ (bs:Int)*c > 2 ^ 48:=by
   have:(2:Int) ^ 48=281474976710656:=by decide
   omega
  have e3:¬ l<0:=by omega
  have e4:¬ l > c:=by omega
  simp only [e1,e2,e3,e4,decide_false,Bool.or_false]
 simp only [wl,wc,hcond,Bool.false_eq_true,if_false]
 refine ak (gT ?_)
 refine ak (ga hi ?_)
 rw [hk,Nat.mul_one]
 by_cases hc:c.toNat=0
 ·simp only [hc,if_true,newRow,newObj,bind,Sem.bind,pure,aK]
  have:=h e
  rw [hc] at this
  have e0:∀ f:Nat->Value,(Array.range 0).map f=Array.replicate 0 z:=fun f=>by apply Array.ext <;> simp
  rw [e0]
  exact this
 ·simp only [hc,if_false]
  refine ak (cK hi hz0 ?_)
  simp only [newRow,newObj,bind,Sem.bind,pure,aK]
  rw [uu z _ hz]
  exact h e
end evS
def bK (k:Nat) (H:ae) (a:Option Addr) (l c:Nat) (xs:List Value) (F:az):Prop :=
 xs.length=l*k∧l<=c∧((a=none∧c=0∧F=[])∨∃ b cs,a=some ⟨b,0,none⟩∧F=[b]∧aV H b cs∧cs.size=c*k∧cs.toList.take (l*k)=xs)
def Rd (k:Nat) (H:ae) (a:Option Addr) (l:Nat) (ys:List Value):Prop :=
 ys.length=l*k∧(a=none->l=0)∧∀ p,a=some p->∀ i,i<l*k->aa H (p.add i)=ys[i]?
theorem bK.nil (k:Nat) (H:ae):bK k H none 0 0 [] []:=⟨by simp,Nat.le_refl _,.inl ⟨rfl,rfl,rfl⟩⟩
theorem bK.len {k:Nat}{H:ae}{a:Option Addr}{l c:Nat}{xs:List Value}{F:az} (h:bK k H a l c xs F):xs.length=l*k:=h.1
theorem bK.lt {k:Nat}{H:ae}{a:Option Addr}{l c:Nat}{xs:List Value}{F:az} (h:bK k H a l c xs F):∀ b∈F,b<H.size:=by
 rcases h.2.2 with ⟨_,_,rfl⟩ | ⟨b,cs,_,rfl,hb,_⟩
 ·simp
 ·intro b' hb';simp at hb';subst hb';exact hb.lt
theorem bK.keep {k:Nat}{H H':ae}{a:Option Addr}{l c:Nat}{xs:List Value}{F:az} (h:bK k H a l c xs F) (he:∀ b∈F,H'[b]?=H[b]?):bK k H' a l c xs F:=by
 refine ⟨h.1,h.2.1,h.2.2.imp id ?_⟩
 rintro ⟨b,cs,h1,rfl,h3,h4⟩
 exact ⟨b,cs,h1,rfl,h3.of_eq (he b (by simp)),h4⟩
theorem bK.fr {k:Nat}{H H':ae}{a:Option Addr}{l c:Nat}{xs:List Value}{F G:az} (h:bK k H a l c xs F) (hf:Fr G H H') (hd:∀ b∈F,b∉G):bK k H' a l c xs F :=
 h.keep fun b hb=>hf.2 b (h.lt b hb) (hd b hb)
theorem bK.rd {k:Nat}{H:ae}{a:Option Addr}{l c:Nat}{xs:List Value}{F:az} (h:bK k H a l c xs F):Rd k H a l xs:=by
 refine ⟨h.1,fun ha=>?_,fun p hp i hi=>?_⟩
 ·rcases h.2.2 with ⟨_,hc,_⟩ | ⟨b,cs,h1,_⟩
  ·have:=h.2.1;omega
  ·rw [h1] at ha;cases ha
 ·rcases h.2.2 with ⟨h0,_,_⟩ | ⟨b,cs,h1,_,h3,h4,h5⟩
  ·rw [h0] at hp;cases hp
  ·rw [h1] at hp;cases hp
   rw [al,Nat.zero_add,h3.cell,←h5,List.getElem?_take_of_lt hi]
   simp
theorem Rd.fr {k:Nat}{H H':ae}{a:Option Addr}{l:Nat}{ys:List Value} (h:Rd k H a l ys) (he:∀ p,a=some p->H'[p.block]?=H[p.block]?):Rd k H' a l ys:=by
 refine ⟨h.1,h.2.1,fun p hp i hi=>?_⟩
 rw [←h.2.2 p hp i hi]
 unfold aa
 have:(p.add i).block=p.block:=by unfold Addr.add;split <;> rfl
 rw [this,he p hp]
section
variable {P:Program}
theorem fi {a:Addr}:∀ (ys:List Value) (i:Nat) (acc:Array Value){Q:Array Value->ae->Prop}{H:ae},
  (∀ j,j<ys.length->aa H (a.add (i+j))=ys[j]?)->Q (acc++ys.toArray) H->aK P (loadCellsFrom a i ys.length acc) Q H
 | [],i,acc,Q,H,_,h=>by simpa [loadCellsFrom,aK,pure] using h
 | y :: r,i,acc,Q,H,hc,h=>by
  refine ⟨y,by simpa using hc 0 (by simp),?_⟩
  refine fi r (i+1) (acc.push y) (fun j hj=>?_) ?_
  ·have:=hc (j+1) (by simpa using hj)
   rw [show i+1+j=i+(j+1) by omega];simpa using this
  ·simpa using h
theorem bT {k:Nat}{H:ae}{a:Option Addr}{l n c:Nat}{ys:List Value}{Q:Array Value->ae->Prop} (hr:Rd k H a l ys) (hn:n<=l) (h:Q (ys.take (n*k)).toArray H) :
  aK P (Builtin.firstCells k n (.slice a l c)) Q H:=by
 cases a with
 | none =>
  have hl:=hr.2.1 rfl
  subst hl
  have:ys=[]:=List.eq_nil_of_length_eq_zero (by rw [hr.1];simp)
  subst this
  simpa [Builtin.firstCells,aK,pure] using h
 | some p =>
  have hle:n*k<=ys.length:=by rw [hr.1];exact Nat.mul_le_mul_right k hn
  have hlen:(ys.take (n*k)).length=n*k:=by simp [hle]
  show aK P (loadCellsFrom p 0 (n*k) #[]) Q H
  rw [←hlen]
  refine fi _ 0 #[] (fun j hj=>?_) (by simpa using h)
  rw [hlen] at hj
  rw [Nat.zero_add,hr.2.2 p rfl j (by rw [←hr.1];omega),List.getElem?_take_of_lt hj]
def dK (cs:Array Value) (o:Nat) (vs:List Value):Array Value:=(cs.toList.take o++vs++cs.toList.drop (o+vs.length)).toArray
theorem pQ (cs:Array Value) (o:Nat) (v:Value) (vs:List Value) (h:o<cs.size):dK (cs.setIfInBounds o v) (o+1) vs=dK cs o (v :: vs):=by
 unfold dK
 congr 1
 rw [Array.toList_setIfInBounds]
 have h1:(cs.toList.set o v).take (o+1)=cs.toList.take o++[v]:=by
  rw [List.take_succ_eq_append_getElem (by simpa using h),List.take_set_of_le (Nat.le_refl _)]
  simp
 have h2:(cs.toList.set o v).drop (o+1+vs.length)=cs.toList.drop (o+(v :: vs).length):=by
  rw [List.drop_set_of_lt (by omega)]
  congr 1
  simp;omega
 rw [h1,h2]
 simp
theorem cX {b:Nat}{t:TypeId}:∀ (vs:List Value) (o i:Nat) (cs:Array Value){Q:Unit->ae->Prop}{H:ae},(∀ v∈vs,dC v=true)->H[b]?=some (.cells cs t (0,0))->o+i+vs.length<=cs.size ->
  (∀ H',H'[b]?=some (.cells (dK cs (o+i) vs) t (0,0))->H'.size=H.size->(∀ b',b'≠b->H'[b']?=H[b']?)->Q () H')->aK P (storeCells ⟨b,o,none⟩ vs i) Q H
 | [],o,i,cs,Q,H,_,hb,_,h=>by
  refine h H ?_ rfl fun _ _=>rfl
  rw [hb]
  simp [dK]
 | v :: r,o,i,cs,Q,H,h1,hb,hlen,h=>by
  have hB:aV H b cs:=⟨t,hb⟩
  simp only [List.length_cons] at hlen
  refine ⟨h1 v (by simp),?_,?_⟩
  ·rw [al];exact hB.wr (by omega)
  ·rw [al]
   have hb':(av H ⟨b,o+i,none⟩ v)[b]?=some (.cells (cs.setIfInBounds (o+i) v) t (0,0)):=by
    simp [av,Array.getElem?_modify,hb]
   refine cX r o (i+1) _ (fun u hu=>h1 u (by simp [hu])) hb' (by simp;omega) fun H' g1 g2 g3=>h H' ?_ (by rw [g2,bt]) fun b' hb'=>?_
   ·rw [g1,show o+(i+1)=o+i+1 by omega,pQ _ _ _ _ (by omega)]
   ·rw [g3 b' hb',ce hb']
theorem jY (need:Nat):∀ (r c:Nat),c<=need->Builtin.growBy need r c<=need+(need+768) / 4
 | 0,c,h=>by simp only [Builtin.growBy];omega
 | r+1,c,h=>by
  simp only [Builtin.growBy]
  split
  ·omega
  ·by_cases h2:c+(c+768) / 4<=need
   ·exact jY need r _ h2
   ·cases r with
    | zero=>simp only [Builtin.growBy];omega
    | succ r=>simp only [Builtin.growBy];rw [if_pos (by omega)];omega
theorem eC {need c:Nat} (h:c<need):Builtin.nextslicecap need c<=2*need+512:=by
 unfold Builtin.nextslicecap
 split
 ·omega
 ·split
  ·omega
  ·have:=jY need 4 c (by omega);omega
theorem ka {need c:Nat} (h:c<need):Builtin.nextslicecap need c<=need+need / 4+1000:=by
 unfold Builtin.nextslicecap
 split
 ·omega
 ·split
  ·omega
  ·have:=jY need 4 c (by omega);omega
def kW (P:Program) (t:TypeId):Bool:=match P.underlying t with | some (.slice _)=>true | _=>false
theorem iy {T T' T0 k bs:Nat}{z:Value}{H:ae}{a a2:Option Addr}{l c l2 c2:Nat}{xs ys:List Value}{F:az}{Q:Value->ae->Prop} (hs:aI P T=some (k,bs,some z)) (hz:z.cells.size=k) (hT:kW P T'=true)
  (ho:bK k H a l c xs F) (hr:Rd k H a2 l2 ys) (hone:∀ v∈ys,dC v=true) (hcp:∀ c,c<l+l2->Builtin.nextslicecap (l+l2) c*bs<=281474976710656) (hbs0:bs≠0)
  (h:∀ a' c' F' H',bK k H' a' (l+l2) c' (xs++ys) F'->Up F H F' H'->(∀ b∈F',b<H'.size)->Q (.slice a' (l+l2) c') H') :
  aK P (Builtin.append_ #[T,T'] T0 #[.slice a l c,.slice a2 l2 c2]) Q H:=by
 obtain ⟨e,i,hu,hi,hk,hb,hz0⟩:=dM hs
 obtain ⟨d,hd,hd'⟩:∃ d,P.underlying T'=some (.slice d)∧True:=by
  unfold kW at hT
  split at hT
  ·rename_i d hd;exact ⟨d,hd,trivial⟩
  ·cases hT
 show aK P (do
  let .slice elem ← underlying T | stuck "append: slice type expected"
  _) Q H
 refine ak (aJ hu ?_)
 refine ak (ga hi ?_)
 rw [hk]
 refine ak (ak (aJ hd ?_))
 simp only [pure,List.getElem_toArray,List.getElem_cons_succ,List.getElem_cons_zero]
 refine ak (cB ?_)
 simp only [Bool.false_eq_true,if_false,Bool.not_false,if_true]
 refine ak (show aK P (Builtin.lenOf (.slice a2 l2 c2)) _ H from ?_)
 refine cB ?_
 by_cases hfit:l+l2<=c
 ·simp only [hfit,if_true]
  refine ak (bT hr (Nat.le_refl _) ?_)
  have hys:ys.take (l2*k)=ys:=List.take_of_length_le (by rw [hr.1];exact Nat.le_refl _)
  rw [hys]
  rcases ho.2.2 with ⟨rfl,hc0,rfl⟩ | ⟨b,cs,rfl,rfl,⟨t,hB⟩,hsz,htk⟩
  ·have hl0:l=0:=by omega
   have hl20:l2=0:=by omega
   subst hl0;subst hl20
   have hy0:ys=[]:=List.eq_nil_of_length_eq_zero (by rw [hr.1];simp)
   have hx0:xs=[]:=List.eq_nil_of_length_eq_zero (by rw [ho.1];simp)
   subst hy0;subst hx0;subst hc0
   exact h none 0 [] H (bK.nil k H) (Up.refl _ _) (by simp)
  ·dsimp only
   rw [al,Nat.zero_add]
   refine ak ?_
   have hroom:l*k+0+ys.length<=cs.size:=by rw [hr.1,hsz,Nat.add_zero,←Nat.add_mul];exact Nat.mul_le_mul_right k hfit
   refine cX ys (l*k) 0 cs hone hB hroom fun H' g1 g2 g3=>?_
   refine h _ _ [b] H' ⟨by rw [List.length_append,ho.1,hr.1,Nat.add_mul],hfit,.inr ⟨b,_,rfl,rfl,⟨t,g1⟩,?_,?_⟩⟩ ⟨⟨by omega,fun b' _ hn=>g3 b' (by simpa using hn)⟩,fun b' hb'=>.inl hb'⟩ ?_
   ·simp only [dK,List.size_toArray,List.length_append,List.length_take,List.length_drop,Array.length_toList]
    omega
   ·simp only [dK,Nat.add_zero]
    have e1:cs.toList.take (l*k)++ys=xs++ys:=by rw [htk]
    rw [e1,List.take_append_of_le_length (by rw [List.length_append,ho.1,hr.1,Nat.add_mul];exact Nat.le_refl _)]
    exact List.take_of_length_le (by rw [List.length_append,ho.1,hr.1,Nat.add_mul];exact Nat.le_refl _)
   ·intro b' hb';simp at hb';subst hb';exact (Array.getElem?_eq_some_iff.1 g1).1
 ·simp only [hfit,if_false]
  have hneed:¬ (((l+l2:Nat):Int) > IntKind.i64.max∧(False∨i.bytes=0)):=by
   rintro ⟨_,h | h⟩
   ·exact h
   ·rw [hb] at h;exact hbs0 h
  refine ak (bP hi ?_)
  simp only [hneed,if_false]
  refine ak (bP hi ?_)
  have hcap:¬ Builtin.nextslicecap (l+l2) c*i.bytes > 2 ^ 48:=by
   rw [hb]
   have:=hcp c (by omega)
   omega
  simp only [hcap,if_false]
  refine ak ?_
  simp only [choose,aK,Question.forced,Bool.false_eq_true,if_false]
  intro t
  have hcut:l+l2<=Question.cut (.appendCap (l+l2) c e) t:=by simp only [Question.cut];omega
  generalize Question.cut (.appendCap (l+l2) c e) t=cap' at hcut
  refine ak (bP hi ?_)
  refine ak (gT ?_)
  refine ak (bT (ho.rd) (Nat.le_refl _) ?_)
  refine ak (bT hr (Nat.le_refl _) ?_)
  refine ak (cK hi hz0 ?_)
  have hxs:xs.take (l*k)=xs:=List.take_of_length_le (by rw [ho.1];exact Nat.le_refl _)
  have hys:ys.take (l2*k)=ys:=List.take_of_length_le (by rw [hr.1];exact Nat.le_refl _)
  rw [hxs,hys]
  simp only [newRow,newObj,bind,Sem.bind,pure,aK]
  refine h _ _ [H.size] _ ⟨by rw [List.length_append,ho.1,hr.1,Nat.add_mul],hcut,.inr ⟨H.size,_,rfl,rfl,aV.new _ _ _,?_,?_⟩⟩ ⟨Fr.push _ _ _,fun b' hb'=>?_⟩ ?_
  ·simp only [Array.size_append,List.size_toArray,Builtin.zeroCells,Array.size_map,Array.size_range,hz]
   rw [ho.1,hr.1,←Nat.add_mul,←Nat.add_mul]
   congr 1
   omega
  ·simp only [Array.toList_append,List.append_assoc]
   rw [←List.append_assoc,List.take_append_of_le_length (by rw [List.length_append,ho.1,hr.1,Nat.add_mul];exact Nat.le_refl _)]
   exact List.take_of_length_le (by rw [List.length_append,ho.1,hr.1,Nat.add_mul];exact Nat.le_refl _)
  ·simp at hb';exact .inr (by omega)
  ·intro b' hb';simp at hb';subst hb';simp
theorem dn {T T' T0 k bs:Nat}{z:Value}{H:ae}{a a2:Option Addr}{l c l2 c2:Nat}{xs ys:List Value}{F:az}{Q:Value->ae->Prop} (hs:aI P T=some (k,bs,some z)) (hz:z.cells.size=k) (hT:kW P T'=true)
  (ho:bK k H a l c xs F) (hr:Rd k H a2 l2 ys) (hone:∀ v∈ys,dC v=true) (hl:l+l2<=274877906944) (hbs:bs<=128) (hbs0:bs≠0)
  (h:∀ a' c' F' H',bK k H' a' (l+l2) c' (xs++ys) F'->Up F H F' H'->(∀ b∈F',b<H'.size)->Q (.slice a' (l+l2) c') H') :
  aK P (Builtin.append_ #[T,T'] T0 #[.slice a l c,.slice a2 l2 c2]) Q H :=
 iy hs hz hT ho hr hone (fun c hc=>by
  have hlE:l+l2<=274877906944:=hl
  have:=eC (need:=l+l2) (c:=c) hc
  have h3:Builtin.nextslicecap (l+l2) c*bs<=(2*(l+l2)+512)*128:=Nat.mul_le_mul this hbs
  exact Nat.le_trans h3 (Nat.le_trans (Nat.mul_le_mul_right 128 (Nat.add_le_add_right (Nat.mul_le_mul_left 2 hlE) 512)) (by decide))) hbs0 h
theorem eR {T T' T0 k bs:Nat}{z:Value}{H:ae}{a:Option Addr}{l c:Nat}{xs:List Value}{ys:Array Value}{e:TypeId}{F:az}{Q:Value->ae->Prop} (hs:aI P T=some (k,bs,some z)) (hz:z.cells.size=k) (hT:kW P T'=true)
  (ho:bK k H a l c xs F) (hy:ys.size=k) (hone:∀ v∈ys.toList,dC v=true) (hcp:∀ c,c<l+1->Builtin.nextslicecap (l+1) c*bs<=281474976710656) (hbs0:bs≠0)
  (h:∀ a' c' F' H',bK k H' a' (l+1) c' (xs++ys.toList) F'->Up F H F' H'->(∀ b∈F',b<H'.size)->Q (.slice a' (l+1) c') H') :
  aK P (Builtin.append_ #[T,T'] T0 #[.slice a l c,.slice (some ⟨H.size,0,none⟩) 1 1]) Q (H.push (.cells ys e)):=by
 refine iy hs hz hT (ho.fr (Fr.push [] H _) (by simp)) (l2:=1) (ys:=ys.toList) ⟨by simp [hy],by simp,fun p hp i hi=>?_⟩ hone hcp hbs0 fun a' c' F' H' h1 h2 h3=>h a' c' F' H' h1 ?_ h3
 ·cases hp
  rw [al,Nat.zero_add,(aV.new H ys e).cell]
  simp
 ·exact ⟨⟨Nat.le_trans (by simp) h2.1.1,fun b hb hn=>by rw [h2.1.2 b (by simp;omega) hn,(Fr.push F H (.cells ys e)).2 b hb hn]⟩,fun b hb=>(h2.2 b hb).imp id fun hge=>by simp at hge;omega⟩
theorem bJ {T T' T0 k bs:Nat}{z:Value}{H:ae}{a:Option Addr}{l c:Nat}{xs:List Value}{ys:Array Value}{e:TypeId}{F:az}{Q:Value->ae->Prop} (hs:aI P T=some (k,bs,some z)) (hz:z.cells.size=k) (hT:kW P T'=true)
  (ho:bK k H a l c xs F) (hy:ys.size=k) (hone:∀ v∈ys.toList,dC v=true) (hl:l<274877906944) (hbs:bs<=128) (hbs0:bs≠0)
  (h:∀ a' c' F' H',bK k H' a' (l+1) c' (xs++ys.toList) F'->Up F H F' H'->(∀ b∈F',b<H'.size)->Q (.slice a' (l+1) c') H') :
  aK P (Builtin.append_ #[T,T'] T0 #[.slice a l c,.slice (some ⟨H.size,0,none⟩) 1 1]) Q (H.push (.cells ys e)) :=
 eR hs hz hT ho hy hone (fun c hc=>by
  have hlE:l+1<=274877906944:=hl
  have:=eC (need:=l+1) (c:=c) hc
  have h3:Builtin.nextslicecap (l+1) c*bs<=(2*(l+1)+512)*128:=Nat.mul_le_mul this hbs
  exact Nat.le_trans h3 (Nat.le_trans (Nat.mul_le_mul_right 128 (Nat.add_le_add_right (Nat.mul_le_mul_left 2 hlE) 512)) (by decide))) hbs0 h
theorem ua {T T0 bs:Nat}{z:Value}{H:ae}{b o n c:Nat}{cs:Array Value}{t:TypeId}{Q:Value->ae->Prop} (hs:aI P T=some (1,bs,some z)) (hz:z.cells=#[z]) (hz1:dC z=true)
  (hb:H[b]?=some (.cells cs t (0,0))) (ho:o+n<=cs.size)
  (h:∀ H',H'[b]?=some (.cells (dK cs o (List.replicate n z)) t (0,0))->H'.size=H.size->(∀ b',b'≠b->H'[b']?=H[b']?)->Q (.tuple #[]) H') :
  aK P (Builtin.clear_ #[T] T0 #[.slice (some ⟨b,o,none⟩) n c]) Q H:=by
 obtain ⟨e,i,hu,hi,hk,hbs,hz0⟩:=dM hs
 cases n with
 | zero =>
  refine ak (aJ hu ?_)
  refine h H ?_ rfl fun _ _=>rfl
  rw [hb];simp [dK]
 | succ n =>
  refine ak (aJ hu ?_)
  refine ak (cK hi hz0 ?_)
  refine ak ?_
  have hrep:(Builtin.zeroCells z.cells (n+1)).toList=List.replicate (n+1) z:=by
   rw [hz,Builtin.zeroCells]
   apply List.ext_getElem
   ·simp
   ·intro j h1 h2;simp [Nat.mod_one]
  rw [hrep]
  exact cX _ o 0 cs (fun v hv=>by rw [List.eq_of_mem_replicate hv];exact hz1) hb (by simp;omega) fun H' g1 g2 g3=>h H' (by simpa using g1) g2 g3
theorem vN {T T' T0 bs:Nat}{z:Option Value}{H:ae}{b o l c l2 c2:Nat}{a2:Option Addr}{ys:List Value}{cs:Array Value}{t:TypeId}{Q:Value->ae->Prop} (hs:aI P T=some (1,bs,z))
  (hb:H[b]?=some (.cells cs t (0,0))) (ho:o+l<=cs.size) (hr:Rd 1 H a2 l2 ys) (hone:∀ v∈ys,dC v=true) (hle:l2<=l)
  (h:∀ H',H'[b]?=some (.cells (dK cs o ys) t (0,0))->H'.size=H.size->(∀ b',b'≠b->H'[b']?=H[b']?)->Q (.int .i64 l2) H') :
  aK P (Builtin.copy_ #[T,T'] T0 #[.slice (some ⟨b,o,none⟩) l c,.slice a2 l2 c2]) Q H:=by
 obtain ⟨e,i,hu,hi,hk,hbs,hz0⟩:=dM hs
 refine ak (aJ hu ?_)
 refine ak (show aK P (Builtin.lenOf (.slice a2 l2 c2)) _ H from ?_)
 refine cB ?_
 have hm:Nat.min l2 l=l2:=Nat.min_eq_left hle
 dsimp only
 rw [hm]
 refine ak (ga hi ?_)
 rw [hk]
 refine ak (show aK P (Builtin.firstCells 1 l2 (.slice a2 l2 c2)) _ H from bT hr (Nat.le_refl _) ?_)
 have hys:ys.take (l2*1)=ys:=List.take_of_length_le (by rw [hr.1];exact Nat.le_refl _)
 rw [hys]
 refine ak ?_
 exact cX ys o 0 cs hone hb (by rw [hr.1];omega) fun H' g1 g2 g3=>h H' (by simpa using g1) g2 g3
end
end Kw
namespace Kw
open Go
theorem aH {α:Type}{x:α}{P:α->Prop}:(∃ q,some x=some q∧P q)↔P x :=
 ⟨fun ⟨_,e,h⟩=>by cases e;exact h,fun h=>⟨x,rfl,h⟩⟩
theorem aC {x:Option Addr}{y z:Nat}{P:Option Addr->Nat->Nat->Prop}:(∃(a:Option Addr) (l c:Nat),some (Value.slice x y z)=some (.slice a l c)∧P a l c)↔P x y z :=
 ⟨fun ⟨a,l,c,e,h⟩=>by cases e;exact h,fun h=>⟨x,y,z,rfl,h⟩⟩
theorem aR {κ:IntKind}{x:Int}{P:Int->Prop}:(∃ n:Int,some (Value.int κ x)=some (.int κ n)∧P n)↔P x :=
 ⟨fun ⟨n,e,h⟩=>by cases e;exact h,fun h=>⟨x,rfl,h⟩⟩
theorem aL {x:Option Addr}{P:Option Addr->Prop}:(∃ a:Option Addr,some (Value.pointer x)=some (.pointer a)∧P a)↔P x :=
 ⟨fun ⟨n,e,h⟩=>by cases e;exact h,fun h=>⟨x,rfl,h⟩⟩
theorem aF {x:Bool}{P:Bool->Prop}:(∃ a:Bool,some (Value.bool x)=some (.bool a)∧P a)↔P x :=
 ⟨fun ⟨n,e,h⟩=>by cases e;exact h,fun h=>⟨x,rfl,h⟩⟩
theorem aN {x:ByteArray}{P:ByteArray->Prop}:(∃ a:ByteArray,some (Value.string x)=some (.string a)∧P a)↔P x :=
 ⟨fun ⟨n,e,h⟩=>by cases e;exact h,fun h=>⟨x,rfl,h⟩⟩
theorem aM {x:Option Nat}{P:Option Nat->Prop}:(∃ a:Option Nat,some (Value.map x)=some (.map a)∧P a)↔P x :=
 ⟨fun ⟨n,e,h⟩=>by cases e;exact h,fun h=>⟨x,rfl,h⟩⟩
theorem aB {x:Option Addr}{y z:Nat}{P:Option Addr->Nat->Nat->Prop}:(∃(a:Option Addr) (l c:Nat),Value.slice x y z=.slice a l c∧P a l c)↔P x y z :=
 ⟨fun ⟨a,l,c,e,h⟩=>by cases e;exact h,fun h=>⟨x,y,z,rfl,h⟩⟩
theorem aO {κ:IntKind}{x:Int}{P:Int->Prop}:(∃ n:Int,Value.int κ x=.int κ n∧P n)↔P x :=
 ⟨fun ⟨n,e,h⟩=>by cases e;exact h,fun h=>⟨x,rfl,h⟩⟩
theorem aP {x:Option Addr}{P:Option Addr->Prop}:(∃ a:Option Addr,Value.pointer x=.pointer a∧P a)↔P x :=
 ⟨fun ⟨n,e,h⟩=>by cases e;exact h,fun h=>⟨x,rfl,h⟩⟩
theorem aG {x:Bool}{P:Bool->Prop}:(∃ a:Bool,Value.bool x=.bool a∧P a)↔P x :=
 ⟨fun ⟨n,e,h⟩=>by cases e;exact h,fun h=>⟨x,rfl,h⟩⟩
theorem aQ {x:ByteArray}{P:ByteArray->Prop}:(∃ a:ByteArray,Value.string x=.string a∧P a)↔P x :=
 ⟨fun ⟨n,e,h⟩=>by cases e;exact h,fun h=>⟨x,rfl,h⟩⟩
theorem aq {H:ae}{c:Array Value}{e:TypeId}{fr:Nat × Nat}{i:Nat}{v:Value}:av (H.push (.cells c e fr)) ⟨H.size,i,none⟩ v=H.push (.cells (c.setIfInBounds i v) e fr):=by
 unfold av
 apply Array.ext
 ·simp
 ·intro j h1 h2
  simp only [Array.size_modify,Array.size_push] at h1
  rw [Array.getElem_modify]
  split
  ·rename_i h;subst h;simp
  ·rename_i h
   have h3:j≠H.size:=fun e=>h e.symm
   rw [Array.getElem_push_lt (by omega),Array.getElem_push_lt (by omega)]
theorem ao {H:ae}{c:Array Value}{e:TypeId}{fr:Nat × Nat}{i:Nat}:aa (H.push (.cells c e fr)) ⟨H.size,i,none⟩=c[i]?:=by simp [aa]
theorem aA {H:ae}{c:Array Value}{e:TypeId}{i:Nat}:Wr (H.push (.cells c e)) ⟨H.size,i,none⟩↔i<c.size:=by
 constructor
 ·rintro ⟨⟨v,hv⟩,_⟩
  rw [ao] at hv
  exact (Array.getElem?_eq_some_iff.1 hv).1
 ·intro h
  exact (aV.new H c e).wr h
theorem fz {H:ae}{o:Obj}{a:Addr} (h:a.block<H.size):aa (H.push o) a=aa H a:=by
 unfold aa;rw [Array.getElem?_push,if_neg (by omega)]
theorem Fr.step {F:az}{H H1:ae}{b o:Nat}{v:Value} (h:Fr F H H1) (hb:b∈F):Fr F H (av H1 ⟨b,o,none⟩ v):=h.trans (Fr.set hb)
theorem Fr.more {F:az}{H H1:ae}{o:Obj} (h:Fr F H H1):Fr F H (H1.push o):=h.trans (Fr.push F H1 o)
def bN (n:Nat) (f:Int->Int):List Value:=(List.range n).map fun i:Nat=>.int .i64 (f i)
def cT (H:ae) (b n:Nat) (f:Int->Int):Prop:=aV H b (bN n f).toArray
theorem mL {n:Nat}{f:Int->Int}{i:Nat} (h:i<n):(bN n f)[i]?=some (.int .i64 (f i)):=by simp [bN,h]
theorem ql {n:Nat}{f g:Int->Int} (h:∀ i:Int,0<=i->i<n->f i=g i):bN n f=bN n g:=by
 unfold bN
 apply List.map_congr_left
 intro i hi
 simp only [List.mem_range] at hi
 rw [h i (by omega) (by omega)]
theorem cT.congr {H:ae}{b n:Nat}{f g:Int->Int} (h:cT H b n f) (he:∀ i:Int,0<=i->i<n->f i=g i):cT H b n g:=by
 unfold cT;rw [←ql he];exact h
theorem cT.lt {H:ae}{b n:Nat}{f:Int->Int} (h:cT H b n f):b<H.size:=aV.lt h
theorem cT.cell {H:ae}{b n:Nat}{f:Int->Int} (h:cT H b n f){i:Int} (h0:0<=i) (h1:i<n):aa H ⟨b,i.toNat,none⟩=some (.int .i64 (f i)):=by
 rw [aV.cell h]
 have:=mL (f:=f) (n:=n) (i:=i.toNat) (by omega)
 rw [Int.toNat_of_nonneg h0] at this
 simpa using this
theorem cT.wr {H:ae}{b n:Nat}{f:Int->Int} (h:cT H b n f){i:Int} (h0:0<=i) (h1:i<n):Wr H ⟨b,i.toNat,none⟩ :=
 aV.wr h (by simp [bN];omega)
def upd (f:Int->Int) (i v:Int):Int->Int:=fun j=>if j=i then v else f j
theorem uf {n:Nat}{f:Int->Int}{i v:Int} (h0:0<=i):(bN n f).set i.toNat (.int .i64 v)=bN n (upd f i v):=by
 apply List.ext_getElem
 ·simp [bN]
 ·intro j h1 h2
  simp only [bN,List.getElem_set,List.getElem_map,List.getElem_range,upd]
  by_cases h:i.toNat=j
  ·rw [if_pos h,if_pos (by omega)]
  ·rw [if_neg h,if_neg (by omega)]
theorem cT.set {H:ae}{b n:Nat}{f:Int->Int} (h:cT H b n f){i:Int} (h0:0<=i) (v:Int):cT (av H ⟨b,i.toNat,none⟩ (.int .i64 v)) b n (upd f i v):=by
 have:=aV.set h i.toNat (.int .i64 v)
 unfold cT
 rw [←uf h0]
 simpa using this
theorem cT.fr {F:az}{H H':ae}{b n:Nat}{f:Int->Int} (h:cT H b n f) (hf:Fr F H H') (hb:b∉F):cT H' b n f:=aV.fr h hf hb
theorem cT.of_eq {H H':ae}{b n:Nat}{f:Int->Int} (h:cT H b n f) (he:H'[b]?=H[b]?):cT H' b n f:=aV.of_eq h he
theorem cT.set_ne {H:ae}{b n:Nat}{f:Int->Int} (h:cT H b n f){a:Addr} (hb:b≠a.block) (v:Value):cT (av H a v) b n f:=aV.set_ne h hb v
theorem cT.push {H:ae}{b n:Nat}{f:Int->Int} (h:cT H b n f) (o:Obj):cT (H.push o) b n f:=aV.push h o
theorem cT.new (H:ae) (n:Nat) (e:TypeId):cT (H.push (.cells (Array.replicate n (.int .i64 0)) e)) H.size n fun _=>0:=by
 have:Array.replicate n (Value.int .i64 0)=(bN n fun _=>0).toArray:=by
  apply Array.ext
  ·simp [bN]
  ·intro i h1 h2;simp [bN]
 rw [this]
 exact aV.new _ _ _
theorem cT.own {H:ae}{b n:Nat}{f:Int->Int} (h:cT H b n f):bK 1 H (some ⟨b,0,none⟩) n n (bN n f) [b] :=
 ⟨by simp [bN],Nat.le_refl _,.inr ⟨b,_,rfl,rfl,h,by simp [bN],List.take_of_length_le (by simp [bN])⟩⟩
theorem tB {n:Nat}{f:Int->Int}:∀ v∈bN n f,dC v=true:=by
 intro v hv
 simp only [bN,List.mem_map] at hv
 obtain ⟨i,_,rfl⟩:=hv
 rfl
theorem cT.rd {H:ae}{b n:Nat}{f:Int->Int} (h:cT H b n f){lo l:Nat} (hl:lo+l<=n):Rd 1 H (some ⟨b,lo,none⟩) l (bN l fun i=>f (lo+i)):=by
 refine ⟨by simp [bN],by simp,fun p hp i hi=>?_⟩
 cases hp
 have:=h.cell (i:=((lo+i:Nat):Int)) (by omega) (by omega)
 rw [al]
 rw [Int.toNat_natCast] at this
 rw [this,mL (by omega)]
 push_cast
 rfl
theorem kw {n o m:Nat}{f g:Int->Int} (h:o+m<=n):dK (bN n f).toArray o (bN m g)=(bN n fun i=>if (o:Int)<=i∧i<o+m then g (i-o) else f i).toArray:=by
 unfold dK
 congr 1
 apply List.ext_getElem
 ·simp [bN];omega
 ·intro j h1 h2
  simp only [bN,List.length_map,List.length_range] at h2
  simp only [bN,List.getElem_append,List.getElem_map,List.getElem_range,List.getElem_take,List.getElem_drop,List.length_append,List.length_take,List.length_map,List.length_range]
  by_cases ha:j<o
  ·have h3:j<min o n:=by omega
   rw [dif_pos (by omega),dif_pos h3,if_neg (by omega)]
  ·by_cases hb:j<o+m
   ·rw [dif_pos (by omega),dif_neg (by omega),if_pos (by omega)]
    congr 2
    omega
   ·rw [dif_neg (by omega),if_neg (by omega)]
    congr 2
    omega
section
variable {P:Program}
theorem lK {T T0 bs:Nat}{H:ae}{b n:Nat}{f:Int->Int}{lo l c:Nat}{Q:Value->ae->Prop} (hs:aI P T=some (1,bs,some (.int .i64 0))) (hm:cT H b n f) (hl:lo+l<=n)
  (h:∀ H',cT H' b n (fun i=>if (lo:Int)<=i∧i<lo+l then 0 else f i)->H'.size=H.size->(∀ b',b'≠b->H'[b']?=H[b']?)->Q (.tuple #[]) H') :
  aK P (Builtin.clear_ #[T] T0 #[.slice (some ⟨b,lo,none⟩) l c]) Q H:=by
 obtain ⟨t,hb⟩:=hm
 have hr:List.replicate l (Value.int .i64 0)=bN l fun _=>0:=by
  apply List.ext_getElem
  ·simp [bN]
  ·intro i h1 h2;simp [bN]
 refine ua hs rfl rfl hb (by simpa [bN] using hl) fun H' h1 h2 h3=>h H' ?_ h2 h3
 rw [hr,kw hl] at h1
 exact ⟨t,h1⟩
theorem kT {b cap:Nat}{lo:Int} (h:lo.toNat<cap):gr (some ⟨b,0,none⟩) cap lo 1=some ⟨b,lo.toNat,none⟩:=by
 unfold gr
 rw [if_neg (by omega)]
 simp
theorem jy {T T0 bs:Nat}{H:ae}{b n:Nat}{f:Int->Int}{lo:Int}{l c:Nat}{Q:Value->ae->Prop} (hs:aI P T=some (1,bs,some (.int .i64 0))) (hm:cT H b n f) (h0:0<=lo) (hl:lo.toNat+l<=n)
  (h:∀ H',cT H' b n (fun i=>if lo<=i∧i<lo+l then 0 else f i)->H'.size=H.size->(∀ b',b'≠b->H'[b']?=H[b']?)->Q (.tuple #[]) H') :
  aK P (Builtin.clear_ #[T] T0 #[.slice (gr (some ⟨b,0,none⟩) n lo 1) l c]) Q H:=by
 by_cases hn:n=lo.toNat
 ·have hl0:l=0:=by omega
  subst hl0
  unfold gr
  rw [if_pos hn]
  refine lK hs hm (lo:=0) (by omega) fun H' h1 h2 h3=>h H' (h1.congr fun i _ _=>?_) h2 h3
  rw [if_neg (by omega),if_neg (by omega)]
 ·rw [kT (by omega)]
  refine lK hs hm hl fun H' h1 h2 h3=>h H' (h1.congr fun i _ _=>?_) h2 h3
  rw [Int.toNat_of_nonneg h0]
theorem tk {T T' T0 bs:Nat}{z:Option Value}{H:ae}{b b2 n n2:Nat}{f g:Int->Int}{lo l c lo2 l2 c2:Nat}{Q:Value->ae->Prop} (hs:aI P T=some (1,bs,z)) (hm:cT H b n f) (hm2:cT H b2 n2 g) (hl:lo+l<=n) (hl2:lo2+l2<=n2) (hle:l2<=l)
  (h:∀ H',cT H' b n (fun i=>if (lo:Int)<=i∧i<lo+l2 then g (i-lo+lo2) else f i)->H'.size=H.size->(∀ b',b'≠b->H'[b']?=H[b']?)->Q (.int .i64 l2) H') :
  aK P (Builtin.copy_ #[T,T'] T0 #[.slice (some ⟨b,lo,none⟩) l c,.slice (some ⟨b2,lo2,none⟩) l2 c2]) Q H:=by
 obtain ⟨t,hb⟩:=hm
 refine vN hs hb (by simpa [bN] using hl) (hm2.rd hl2) tB hle fun H' h1 h2 h3=>h H' ?_ h2 h3
 rw [kw (by omega)] at h1
 refine cT.congr ⟨t,h1⟩ fun i _ _=>?_
 split
 ·congr 1;omega
 ·rfl
theorem pq {T T' T0 bs:Nat}{z:Option Value}{H:ae}{b n:Nat}{f:Int->Int}{lo lo2:Int}{l c l2 c2:Nat}{Q:Value->ae->Prop} (hs:aI P T=some (1,bs,z)) (hm:cT H b n f) (h0:0<=lo) (h1:lo<n) (hl:lo.toNat+l<=n) (h2:0<=lo2) (h3:lo2<n) (hl2:lo2.toNat+l2<=n) (hle:l2<=l)
  (h:∀ H',cT H' b n (fun i=>if lo<=i∧i<lo+l2 then f (i-lo+lo2) else f i)->H'.size=H.size->(∀ b',b'≠b->H'[b']?=H[b']?)->Q (.int .i64 l2) H') :
  aK P (Builtin.copy_ #[T,T'] T0 #[.slice (gr (some ⟨b,0,none⟩) n lo 1) l c,.slice (gr (some ⟨b,0,none⟩) n lo2 1) l2 c2]) Q H:=by
 rw [kT (by omega),kT (by omega)]
 refine tk hs hm hm hl hl2 hle fun H' g1 g2 g3=>h H' (g1.congr fun i _ _=>?_) g2 g3
 rw [Int.toNat_of_nonneg h0,Int.toNat_of_nonneg h2]
end
theorem Up.fresh {F F':az}{H H2 H3:ae} (hf:Fr [] H H2) (hu:Up F H2 F' H3) (hF:∀ b∈F,H.size<=b):Fr [] H H3∧∀ b∈F',H.size<=b:=by
 refine ⟨⟨Nat.le_trans hf.1 hu.1.1,fun b hb _=>?_⟩,fun b hb=>?_⟩
 ·rw [hu.1.2 b (Nat.lt_of_lt_of_le hb hf.1) (fun hm=>absurd (hF b hm) (by omega)),hf.2 b hb (by simp)]
 ·rcases hu.2 b hb with h | h
  ·exact hF b h
  ·exact Nat.le_trans hf.1 h
def ag (l:List Int):List Value:=l.map (.int .i64)
theorem fM {l:List Int}:∀ v∈ag l,dC v=true:=by
 intro v hv
 simp only [ag,List.mem_map] at hv
 obtain ⟨i,_,rfl⟩:=hv
 rfl
theorem bX (l m:List Int):ag (l++m)=ag l++ag m:=by simp [ag]
theorem Rd.int {H:ae}{a:Option Addr}{l:Nat}{ys:List Int} (h:Rd 1 H a l (ag ys)){i:Int} (h0:0<=i) (h1:i<l):∃ p,a=some p∧aa H (p.add i.toNat)=some (.int .i64 (ys.getD i.toNat 0))∧i.toNat<ys.length:=by
 have hl:=h.1
 simp only [ag,List.length_map] at hl
 cases a with
 | none=>have:=h.2.1 rfl;omega
 | some p =>
  refine ⟨p,rfl,?_,by omega⟩
  rw [h.2.2 p rfl i.toNat (by omega)]
  have hi:i.toNat<ys.length:=by omega
  simp [ag,hi]
theorem Rd.len {k:Nat}{H:ae}{a:Option Addr}{l:Nat}{ys:List Value} (h:Rd k H a l ys):ys.length=l*k:=h.1
theorem Rd.fr' {F:az}{k:Nat}{H H':ae}{a:Option Addr}{l:Nat}{ys:List Value} (h:Rd k H a l ys) (hf:Fr F H H') (hd:∀ p,a=some p->p.block∉F):Rd k H' a l ys:=by
 refine ⟨h.1,h.2.1,fun p hp i hi=>?_⟩
 have h1:=h.2.2 p hp i hi
 have hb:(p.add i).block=p.block:=by unfold Addr.add;split <;> rfl
 have hlt:p.block<H.size:=by
  have h2:i<ys.length:=by rw [h.1];exact hi
  rw [List.getElem?_eq_getElem h2] at h1
  unfold aa at h1
  rw [hb] at h1
  rcases Nat.lt_or_ge p.block H.size with h3 | h3
  ·exact h3
  ·simp only [Array.getElem?_eq_none h3] at h1;cases h1
 rw [←h1]
 unfold aa
 rw [hb,hf.2 _ hlt (hd p hp)]
theorem bK.newMem (H:ae) (c:Nat) (e:TypeId):bK 1 (H.push (.cells (Array.replicate c (.int .i64 0)) e)) (some ⟨H.size,0,none⟩) 0 c [] [H.size] :=
 ⟨by simp,Nat.zero_le _,.inr ⟨H.size,_,rfl,rfl,aV.new _ _ _,by simp,by simp⟩⟩
def cA (F G:az):Prop:=∀ b∈F,b∉G
theorem cA.symm {F G:az} (h:cA F G):cA G F:=fun b hb hf=>h b hf hb
theorem cA.nil_left (F:az):cA [] F:=fun _ h=>by cases h
theorem cA.nil_right (F:az):cA F []:=fun _ _ h=>by cases h
theorem cA.mono {F G F' G':az} (h:cA F G) (h1:∀ b∈F',b∈F) (h2:∀ b∈G',b∈G):cA F' G':=fun b hb hg=>h b (h1 b hb) (h2 b hg)
abbrev Lo (α:Type):=ae->List Value->α->az->Prop
section
variable {α:Type}{n:Nat}{R:Lo α}{H H':ae}
end
end Kw
