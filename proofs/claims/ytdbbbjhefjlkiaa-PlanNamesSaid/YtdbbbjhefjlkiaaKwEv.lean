/- A predicate transformer for the model's code, over the heap alone: definitions. -/
import Derived.OrdersHeld
import Derived.Laws.Sem
import Derived.KernelRfl
namespace Kw
open Go

abbrev Heap := Array Obj

def cellH (H : Heap) (a : Addr) : Option Value :=
  match H[a.block]? with
  | some (.cells c _ _) => if a.spot.isSome then none else c[a.off]?
  | _ => none
def shapeH (H : Heap) (r : Nat) : Option (TypeId × Nat) :=
  match H[r]? with
  | some (.cells c elem _) => some (elem, c.size)
  | _ => none
def frozenH (H : Heap) (a : Addr) : Bool :=
  match H[a.block]? with
  | some (.cells _ _ (lo, hi)) => lo ≤ a.off && a.off < hi
  | _ => false
def freezeH (H : Heap) (a : Addr) (n : Nat) : Heap :=
  if n = 0 then H else
  H.modify a.block fun
      | .cells c elem (lo, hi) => .cells c elem (if lo == hi then (a.off, a.off + n) else (min lo a.off, max hi (a.off + n)))
      | o => o
def setH (H : Heap) (a : Addr) (v : Value) : Heap :=
  H.modify a.block fun
      | .cells c elem frozen => .cells (if a.spot.isSome then c else c.setIfInBounds a.off v) elem frozen
      | o => o
/-- A cell that may be written. -/
def Wr (H : Heap) (a : Addr) : Prop := (∃ v, cellH H a = some v) ∧ frozenH H a = false

def oneC : Value → Bool
  | .agg _ | .tuple _ => false
  | _ => true

def isCells : Obj → Bool
  | .cells .. => true
  | _ => false

/-- What a tree of the model's comes to, over the heap alone: whatever is drawn. -/
def evS (P : Program) {α : Type} : Sem α → (α → Heap → Prop) → Heap → Prop
  | .pure a, Q, H => Q a H
  | .load _ a k, Q, H => ∃ v, cellH H a = some v ∧ evS P (k v) Q H
  | .store _ a v k, Q, H => oneC v = true ∧ Wr H a ∧ evS P k Q (setH H a v)
  | .new o k, Q, H => evS P (k H.size) Q (H.push o)
  | .shape r k, Q, H => evS P (k (shapeH H r)) Q H
  | .freeze a n k, Q, H => evS P k Q (freezeH H a n)
  | .frozen a k, Q, H => evS P (k (frozenH H a)) Q H
  | .getObj r k, Q, H => ∃ o, H[r]? = some o ∧ isCells o = false ∧ evS P (k o) Q H
  | .setObj r o k, Q, H => (∃ o', H[r]? = some o' ∧ isCells o' = false) ∧ evS P k Q (H.setIfInBounds r o)
  | .choose q k, Q, H => if q.forced then evS P (k 0) Q H else ∀ t, evS P (k (q.cut t)) Q H
  | .sys _ _, _, _ => False
  | .program k, Q, H => evS P (k P) Q H
  | .mark _ k, Q, H => evS P k Q H
  | .halt _, _, _ => False

/-- The same of a tree that does not look at the heap. -/
def evP (P : Program) {α : Type} : Sem α → (α → Prop) → Prop
  | .pure a, k => k a
  | .program c, k => evP P (c P) k
  | .mark _ c, k => evP P c k
  | _, _ => False

/-- There is a value of this make. -/
def exLeaf (d : Option TypeDesc) (k : Value → Prop) : Prop :=
  match d with
  | some (.int κ) => ∃ n : Int, k (.int κ n)
  | some .bool => ∃ b : Bool, k (.bool b)
  | some .string => ∃ s : ByteArray, k (.string s)
  | some (.pointer _) => ∃ p : Option Addr, k (.pointer p)
  | some (.slice _) => ∃ (a : Option Addr) (l c : Nat), k (.slice a l c)
  | some (.map _ _) => ∃ r : Option Nat, k (.map r)
  | _ => ∃ v : Value, k v

def exL : List (Option TypeDesc) → (List Value → Prop) → Prop
  | [], k => k []
  | d :: r, k => exLeaf d fun v => exL r fun vs => k (v :: vs)

/-- The cells of a type. -/
def flat (P : Program) : Nat → TypeId → List (Option TypeDesc)
  | 0, _ => []
  | n + 1, t =>
    match P.underlying t with
    | some (.struct fs) => fs.toList.flatMap fun f => flat P n f.type
    | some (.array len e) => (List.replicate len (flat P n e)).flatten
    | d => [d]

def exV (P : Program) (t : TypeId) (k : Value → Prop) : Prop :=
  match P.underlying t with
  | some (.struct _) | some (.array _ _) => exL (flat P 20 t) fun vs => k (.agg vs.toArray)
  | d => exLeaf d k

def exVs (P : Program) : List TypeId → (List Value → Prop) → Prop
  | [], k => k []
  | t :: r, k => exV P t fun v => exVs P r fun vs => k (v :: vs)

/-- A value of a type (a tuple's too), written out. -/
def tyV (P : Program) (t : TypeId) (v : Value) (k : Value → Prop) : Prop :=
  match P.underlying t with
  | some (.tuple ts) => exVs P ts.toList fun vs => v = .tuple vs.toArray ∧ k (.tuple vs.toArray)
  | _ => exV P t fun x => v = x ∧ k x

def loadL (H : Heap) (ad : Addr) : Nat → List (Option TypeDesc) → (List Value → List (Addr × Value) → Prop) → Prop
  | _, [], k => k [] []
  | i, d :: r, k => exLeaf d fun v => cellH H (ad.add i) = some v ∧ loadL H ad (i + 1) r fun vs cs => k (v :: vs) ((ad.add i, v) :: cs)

def evLoad (P : Program) (t : TypeId) (ad : Addr) (H : Heap) (k : Value → List (Addr × Value) → Prop) : Prop :=
  match P.underlying t with
  | some (.struct _) | some (.array _ _) =>
    match decide ((P.info? t).map (·.size) = some (flat P 20 t).length) with
    | true => loadL H ad 0 (flat P 20 t) fun vs cs => k (.agg vs.toArray) cs
    | false => False
  | d => match d with
    | some _ => exLeaf d fun v => cellH H ad = some v ∧ k v [(ad, v)]
    | none => False

def storeL (ad : Addr) : Nat → List Value → (Heap → Prop) → Heap → Prop
  | _, [], k, H => k H
  | i, v :: r, k, H =>
    match oneC v with
    | true => Wr H (ad.add i) ∧ storeL ad (i + 1) r k (setH H (ad.add i) v)
    | false => False

def evStore (P : Program) (t : TypeId) (ad : Addr) (v : Value) (k : Heap → Prop) (H : Heap) : Prop :=
  match decide ((P.info? t).map (·.size) = some v.cells.toList.length) with
  | true => storeL ad 0 v.cells.toList k H
  | false => False

/-- A call, over the heap alone. -/
def callS (P : Program) (f : FuncId) (args : Array Value) (Q : Value → Heap → Prop) (H : Heap) : Prop :=
  (∃ fn, P.funcs[f]? = some fn ∧ fn.body.isSome = true) ∧
  ∀ w : World, w.heap = H → Calls P f args w fun e w' => ∃ v, e = .returned v ∧ Q v w'.heap ∧ w'.tape = w.tape ∧ w'.os = w.os ∧ w'.output = w.output

def nxV (k : Value → Prop) : Next → Prop
  | .value v => k v
  | _ => False

def sizeT (P : Program) (t : TypeId) : Nat := ((P.info? t).map (·.size)).getD 0
def oneT (P : Program) (t : TypeId) : Bool :=
  match P.underlying t with
  | some (.struct _) | some (.array _ _) | none => false
  | some _ => decide ((P.info? t).map (·.size) = some 1)

/-- The address of what is left of a slice. -/
def offA (base : Option Addr) (cap : Nat) (l : Int) (size : Nat) : Option Addr := if cap = l.toNat then base else base.map (·.add (l.toNat * size))
def iand (k : IntKind) (x y : Int) : Int := k.wrap (BitVec.ofInt k.bits x &&& BitVec.ofInt k.bits y).toNat
def ior (k : IntKind) (x y : Int) : Int := k.wrap (BitVec.ofInt k.bits x ||| BitVec.ofInt k.bits y).toNat
def ixor (k : IntKind) (x y : Int) : Int := k.wrap (BitVec.ofInt k.bits x ^^^ BitVec.ofInt k.bits y).toNat
def iandNot (k : IntKind) (x y : Int) : Int := k.wrap (BitVec.ofInt k.bits x &&& ~~~(BitVec.ofInt k.bits y)).toNat
def shlI (k : IntKind) (x y : Int) : Int := k.wrap (x * 2 ^ (min y.toNat k.bits))
def shrI (k : IntKind) (x y : Int) : Int := x.fdiv (2 ^ (min y.toNat k.bits))
def strEq (x y : ByteArray) : Bool := x.toList == y.toList

/-- An operation that does not look at the heap. -/
def evPure (P : Program) (o : Oper) (a : Act) (k : Value → Prop) : Prop :=
  match o.op with
  | .pick c x y =>
    match a.eval c with
    | .bool b => cond b (k (a.eval x)) (k (a.eval y))
    | _ => False
  | .nilCheck x =>
    match a.eval x with
    | .pointer p => ∃ ad, p = some ad ∧ k (.pointer (some ad))
    | _ => evP P (execOp a.eval o) (nxV k)
  | .indexAddr t x i =>
    match P.underlying t, a.eval x, a.eval i with
    | some (.slice e), .slice base len _, .int _ i =>
      match (P.info? e).isSome with
      | true => (0 ≤ i ∧ i < len) ∧ ∃ b, base = some b ∧ k (.pointer (some (b.add (i.toNat * sizeT P e))))
      | false => False
    | some (.array len e), .pointer (some b), .int _ i =>
      match (P.info? e).isSome with
      | true => (0 ≤ i ∧ i < (len : Int)) ∧ k (.pointer (some (b.add (i.toNat * sizeT P e))))
      | false => False
    | _, _, _ => False
  | .index t x i =>
    match P.underlying t, a.eval x, a.eval i with
    | some .string, .string s, .int _ i => ∃ b : UInt8, (0 ≤ i ∧ s[i.toNat]? = some b) ∧ k (.int .u8 b.toNat)
    | some (.array len e), .agg cs, .int _ i =>
      match oneT P e with
      | true => (0 ≤ i ∧ i < (len : Int)) ∧ exLeaf (P.underlying e) fun v => cs[i.toNat]? = some v ∧ k v
      | false => evP P (execOp a.eval o) (nxV k)
    | _, _, _ => False
  | .slice t x lo hi none =>
    match P.underlying t, a.eval x with
    | some (.slice e), .slice base len cap =>
      match (P.info? e).isSome with
      | true =>
        match lo.map a.eval, hi.map a.eval with
        | none, none => k (.slice base len cap)
        | none, some (.int _ h) => (0 ≤ h ∧ h ≤ (cap : Int)) ∧ k (.slice base h.toNat cap)
        | some (.int _ l), none => (0 ≤ l ∧ l ≤ (len : Int)) ∧ k (.slice (offA base cap l (sizeT P e)) (len - l.toNat) (cap - l.toNat))
        | some (.int _ l), some (.int _ h) => ((0 ≤ h ∧ h ≤ (cap : Int)) ∧ 0 ≤ l ∧ l ≤ h) ∧ k (.slice (offA base cap l (sizeT P e)) (h.toNat - l.toNat) (cap - l.toNat))
        | _, _ => False
      | false => False
    | some .string, .string s =>
      match lo.map a.eval, hi.map a.eval with
      | none, none => k (.string (s.extract 0 s.size))
      | none, some (.int _ h) => (0 ≤ h ∧ h ≤ (s.size : Int)) ∧ k (.string (s.extract 0 h.toNat))
      | some (.int _ l), none => (0 ≤ l ∧ l ≤ (s.size : Int)) ∧ k (.string (s.extract l.toNat s.size))
      | some (.int _ l), some (.int _ h) => ((0 ≤ h ∧ h ≤ (s.size : Int)) ∧ 0 ≤ l ∧ l ≤ h) ∧ k (.string (s.extract l.toNat h.toNat))
      | _, _ => False
    | _, _ => False
  | .binOp op t x y _ =>
    match op, P.underlying t, a.eval x, a.eval y with
    | .eql, some (.pointer _), .pointer p, .pointer none => k (.bool p.isNone)
    | .neq, some (.pointer _), .pointer p, .pointer none => k (.bool (!p.isNone))
    | .eql, some (.slice _), .slice p _ _, .slice none _ _ => k (.bool p.isNone)
    | .neq, some (.slice _), .slice p _ _, .slice none _ _ => k (.bool (!p.isNone))
    | .eql, some (.map _ _), .map p, .map none => k (.bool p.isNone)
    | .neq, some (.map _ _), .map p, .map none => k (.bool (!p.isNone))
    | .quo, _, .int κ x, .int κ' y => match decide (κ = κ') with
      | true => cond (decide (y = 0)) False (k (.int κ (κ.wrap (x.tdiv y))))
      | false => False
    | .rem, _, .int κ x, .int κ' y => match decide (κ = κ') with
      | true => cond (decide (y = 0)) False (k (.int κ (x.tmod y)))
      | false => False
    | .shl, _, .int κ x, .int _ y => cond (decide (y < 0)) False (k (.int κ (shlI κ x y)))
    | .shr, _, .int κ x, .int _ y => cond (decide (y < 0)) False (k (.int κ (shrI κ x y)))
    | .add, _, .string x, .string y => cond (decide (((x.size + y.size : Nat) : Int) > IntKind.i64.max)) False (k (.string (x ++ y)))
    | _, _, _, _ => evP P (execOp a.eval o) (nxV k)
  | _ => evP P (execOp a.eval o) (nxV k)

/-- Does it, by its make, not look at the heap? -/
def isPure (P : Program) (o : Oper) : Bool :=
  match o.op with
  | .move _ | .assign _ | .pick .. | .build .. | .nilCheck _ | .unOp .. | .makeInterface .. | .makeFunc .. | .slice .. | .fieldAddr .. | .field .. | .indexAddr .. | .index .. | .extract .. => true
  | .binOp op t x y _ =>
    match P.underlying t with
    | some (.pointer _) => (match y with | .const (.pointer none) => true | _ => false)
    | some (.interface _) | some (.struct _) | some (.array _ _) => false
    | _ => (match op, x with | _, _ => true)
  | .convert src dst _ =>
    match P.underlying src, P.underlying dst with
    | some (.slice _), some (.slice _) => false
    | some (.slice _), _ => false
    | some .string, some (.slice _) => false
    | _, _ => true
  | .call c =>
    match c.callee with
    | .builtin .len | .builtin .cap =>
      (match (c.argTypes[0]?).bind P.underlying with
       | some .string | some (.slice _) | some (.array _ _) => true
       | _ => false)
    | .builtin .min | .builtin .max => true
    | _ => false
  | _ => false

/-- An operation. -/
def evOp (P : Program) (o : Oper) (a : Act) (k : Value → Heap → Prop) (H : Heap) : Prop :=
  match isPure P o with
  | true => evPure P o a fun v => k v H
  | false =>
    match o.op with
    | .load t x =>
      match a.eval x with
      | .pointer (some ad) => evLoad P t ad H fun v _ => k v H
      | _ => False
    | .store t x v =>
      match a.eval x with
      | .pointer (some ad) => evStore P t ad (a.eval v) (k undef) H
      | _ => False
    | .alloc e =>
      match (P.info? e).bind (·.zero) with
      | some z => k (.pointer (some ⟨H.size, 0, none⟩)) (H.push (.cells z.cells e))
      | none => False
    | .box e x => k (.pointer (some ⟨H.size, 0, none⟩)) (H.push (.cells (a.eval x).cells e))
    | .buildSlice t len parts => evS P (Instr.buildSlice t len (parts.map fun (i, x) => (i, a.eval x))) k H
    | .makeMap _ none => k (.map (some H.size)) (H.push (.map #[] 0))
    | .makeSlice t l c => evS P (Instr.makeSlice t (a.eval l) (a.eval c)) (fun v H' => tyV P o.type v fun x => k x H') H
    | .lookup t m key ok => evS P (Instr.lookup t (a.eval m) (a.eval key) ok) (fun v H' => tyV P o.type v fun x => k x H') H
    | .mapUpdate t m key x => evS P (Instr.mapUpdate t (a.eval m) (a.eval key) (a.eval x)) (fun _ H' => k undef H') H
    | .insert t m key x => evS P (Instr.mapUpdate t (a.eval m) (a.eval key) (a.eval x)) (fun _ H' => k undef H') H
    | .mapEntry t m key => evS P (Instr.mapEntry t (a.eval m) (a.eval key)) (fun v H' => k v H') H
    | .entryStore t m s x => evS P (Instr.entryStore t (a.eval m) (a.eval s) (a.eval x)) (fun _ H' => k undef H') H
    | .range t x => evS P (Instr.range t (a.eval x)) k H
    | .next it s => evS P (Instr.next (a.eval it) s o.type) k H
    | .convert src dst x => evS P (convert src dst (a.eval x)) (fun v H' => tyV P o.type v fun x => k x H') H
    | .binOp op t x y _ => evS P (do eqGuard op t x y (a.eval x) (a.eval y); binOp op t (a.eval x) (a.eval y)) (fun v H' => tyV P o.type v fun x => k x H') H
    | .call c =>
      match c.callee with
      | .value f =>
        match a.eval f with
        | .func (.func g) first cap => callS P g ((first ++ c.args.map a.eval) ++ cap) (fun v H' => tyV P o.type v fun x => k x H') H
        | _ => False
      | .builtin .append => evS P (Builtin.append_ c.argTypes o.type (c.args.map a.eval)) (fun v H' => tyV P o.type v fun x => k x H') H
      | .builtin .copy => evS P (Builtin.copy_ c.argTypes o.type (c.args.map a.eval)) (fun v H' => tyV P o.type v fun x => k x H') H
      | .builtin .clear => evS P (Builtin.clear_ c.argTypes o.type (c.args.map a.eval)) k H
      | .builtin .delete => evS P (Builtin.delete_ c.argTypes o.type (c.args.map a.eval)) k H
      | .builtin .len => evS P (Builtin.len_ c.argTypes o.type (c.args.map a.eval)) (fun v H' => tyV P o.type v fun x => k x H') H
      | _ => False
    | _ => False

/-- The slot that an operation's guard looks at, once its truth is known. -/
def evGuard (ops : Array Oper) (o : Oper) (a : Act) (yes no : Act → Prop) : Prop :=
  match o.guard with
  | none => yes a
  | some (j, want) =>
    match (ops[j]?).bind (·.dst) with
    | none => no a
    | some d =>
      match a.tmps[d]? with
      | some (.bool b) =>
        cond b (match want with | true => yes (a.put (some d) (.bool true)) | false => no (a.put (some d) (.bool true)))
          (match want with | true => no (a.put (some d) (.bool false)) | false => yes (a.put (some d) (.bool false)))
      | some (.tuple _) => no a
      | none => no a
      | _ => False

def evOps (P : Program) (ops : Array Oper) (Q : Act → Heap → Prop) : List Oper → Act → Heap → Prop
  | [], a, H => Q a H
  | o :: rest, a, H =>
    evGuard ops o a (fun a => evOp P o a (fun v H' => evOps P ops Q rest (a.put o.dst v) H') H) (fun a => evOps P ops Q rest (a.put o.dst undef) H)

/-! ### A region that draws its order -/

/-- The operations that one waits for. -/
def preds (ops : Array Oper) (i : Nat) : List Nat :=
  match ops[i]? with
  | some o => (o.after.toList.filter (Region.binds .any)).map (·.on)
  | none => []
def ancGo (ops : Array Oper) : Nat → List Nat → List Nat
  | 0, acc => acc
  | p + 1, acc => ancGo ops p (if acc.contains p then preds ops p ++ acc else acc)
/-- Those, and those that they wait for. -/
def anc (ops : Array Oper) (i : Nat) : List Nat := ancGo ops i (preds ops i)

def HoldsL : List (Addr × Value) → Heap → Prop
  | [], _ => True
  | (a, v) :: r, H => cellH H a = some v ∧ HoldsL r H
def Holds : List (Nat × List (Addr × Value)) → Heap → Prop
  | [], _ => True
  | (_, l) :: r, H => HoldsL l H ∧ Holds r H
/-- What is still held, behind an operation. -/
def heldOn (ops : Array Oper) (i : Nat) (held : List (Nat × List (Addr × Value))) : List (Nat × List (Addr × Value)) := held.filter fun h => !(anc ops i).contains h.1

def quietOp (P : Program) (o : Oper) : Bool := isPure P o || (match o.op with | .load .. => true | _ => false)

def andAll : List Nat → (Nat → Prop) → Prop
  | [], _ => True
  | [i], p => p i
  | i :: r, p => p i ∧ andAll r p

/-- The first that is quiet, among those that may come. -/
def quietAt (P : Program) (ops : Array Oper) (listed : Array Bool) : Option Nat :=
  (Region.ready .any ops listed).find? fun i => ((ops[i]?).map (quietOp P)).getD false

/-- The operations, what is quiet first, else whichever may come. -/
def evDraw (P : Program) (ops : Array Oper) (Q : Act → Heap → Prop) : Nat → Array Bool → List (Nat × List (Addr × Value)) → Act → Heap → Prop
  | 0, listed, _, a, H => match (Region.ready .any ops listed).isEmpty with
    | true => Q a H
    | false => False
  | n + 1, listed, held, a, H =>
    match quietAt P ops listed with
    | some i =>
      match Region.free .any ops listed i, ops[i]? with
      | true, some o =>
        evGuard ops o a
          (fun a =>
            match isPure P o with
            | true => evPure P o a fun v => evDraw P ops Q n (listed.setIfInBounds i true) held (a.put o.dst v) H
            | false =>
              match o.op with
              | .load t x =>
                match a.eval x with
                | .pointer (some ad) => evLoad P t ad H fun v cs => evDraw P ops Q n (listed.setIfInBounds i true) ((i, cs) :: held) (a.put o.dst v) H
                | _ => False
              | _ => False)
          (fun a => evDraw P ops Q n (listed.setIfInBounds i true) held (a.put o.dst undef) H)
      | _, _ => False
    | none =>
      match Region.ready .any ops listed with
      | [] => Q a H
      | rs => andAll rs fun i =>
        match ops[i]? with
        | some o =>
          evGuard ops o a
            (fun a => evOp P o a (fun v H' => Holds (heldOn ops i held) H' ∧ evDraw P ops Q n (listed.setIfInBounds i true) (heldOn ops i held) (a.put o.dst v) H') H)
            (fun a => evDraw P ops Q n (listed.setIfInBounds i true) (heldOn ops i held) (a.put o.dst undef) H)
        | none => False

/-! ### Code -/

def firstId : Code → Nat
  | .region id _ _ => id
  | .seq a b => (match a with | .skip => firstId b | _ => firstId a)
  | .cond _ a _ => firstId a
  | .block _ b => firstId b
  | .loop b => firstId b
  | _ => 1000000

def writes : Code → List Nat
  | .region _ ops _ => ops.toList.filterMap (·.dst)
  | .seq a b => writes a ++ writes b
  | .cond _ a b => writes a ++ writes b
  | .block _ b => writes b
  | .loop b => writes b
  | _ => []

def putAll (a : Act) (ws : List Nat) (g : Nat → Value) : Act := ws.foldl (fun a i => a.put (some i) (g i)) a

/-- The values of some slots, by their types. -/
def exSlots (P : Program) : List (Nat × TypeId) → (List (Nat × Value) → Prop) → Prop
  | [], k => k []
  | (t, ty) :: r, k => exV P ty fun v => exSlots P r fun ps => k ((t, v) :: ps)

def putPairs (a : Act) (ps : List (Nat × Value)) : Act := ps.foldl (fun a p => a.put (some p.1) p.2) a

def slotsOf (a : Act) (L : List (Nat × TypeId)) : List Value := L.map fun p => a.tmps.getD p.1 undef

abbrev Post := Exit → Act → Heap → Prop

def thenQ (K : Act → Heap → Prop) (Q : Post) : Post
  | .normal, a, H => K a H
  | e, a, H => Q e a H

def inBlockQ (id : Nat) (Q : Post) : Post
  | .exit id', a, H => match decide (id' = id) with
    | true => Q .normal a H
    | false => Q (.exit id') a H
  | e, a, H => Q e a H

abbrev Live := Nat → Option (List (Nat × TypeId))

/-- From here on, the frame being known in these slots alone. -/
def fromJoin (P : Program) (ws : List Nat) (L : List (Nat × TypeId)) (a : Act) (K : Act → Heap → Prop) (vs : List Value) (H : Heap) : Prop :=
  ∀ g : Nat → Value, exSlots P L fun ps => vs = ps.map (·.2) ∧ K (putPairs (putAll a ws g) ps) H

def ev (P : Program) (Ls : Live) : Code → Post → Act → Heap → Prop
  | .skip, Q, a, H => Q .normal a H
  | .label _, Q, a, H => Q .normal a H
  | .region _ ops draw, Q, a, H =>
    match draw with
    | false => evOps P ops (Q .normal) ops.toList a H
    | true =>
      match Region.noSelect ops with
      | true => evDraw P ops (Q .normal) ops.size (Array.replicate ops.size false) [] a H
      | false => False
  | .seq x y, Q, a, H =>
    match Ls (1000 + firstId y) with
    | none => ev P Ls x (thenQ (ev P Ls y Q) Q) a H
    | some L => ∃ J : List Value → Heap → Prop, ev P Ls x (thenQ (fun a' H' => J (slotsOf a' L) H') Q) a H ∧
        ∀ vs H', J vs H' → fromJoin P (writes x) L a (ev P Ls y Q) vs H'
  | .cond c x y, Q, a, H =>
    match a.eval c with
    | .bool b =>
      match c with
      | .tmp t => cond b (ev P Ls x Q (a.put (some t) (.bool true)) H) (ev P Ls y Q (a.put (some t) (.bool false)) H)
      | _ => cond b (ev P Ls x Q a H) (ev P Ls y Q a H)
    | _ => False
  | .block id b, Q, a, H => ev P Ls b (inBlockQ id Q) a H
  | .loop b, Q, a, H =>
    match Ls (firstId b) with
    | none => False
    | some L => ∃ (I : List Value → Heap → Prop) (μ : List Value → Heap → Nat), I (slotsOf a L) H ∧
        ∀ vs H', I vs H' → fromJoin P (writes b) L a (ev P Ls b (thenQ (fun a' H'' => I (slotsOf a' L) H'' ∧ μ (slotsOf a' L) H'' < μ vs H') Q)) vs H'
  | .exit id, Q, a, H => Q (.exit id) a H
  | .ret, Q, a, H => Q .ret a H
  | .rangeFunc .., _, _, _ => False
  | .scope _, _, _, _ => False
  | .goto _, _, _, _ => False
  | .refuse _, _, _, _ => False

/-- A function's results. -/
def resL (P : Program) (a : Act) (H : Heap) : List ResultVar → (List Value → Prop) → Prop
  | [], k => k []
  | .tmp t :: r, k => resL P a H r fun vs => k (a.tmps.getD t undef :: vs)
  | .cell x t :: r, k =>
    match a.tmps.getD x undef with
    | .pointer (some ad) => evLoad P t ad H fun v _ => resL P a H r fun vs => k (v :: vs)
    | _ => False

def fnQ (P : Program) (fn : Func) (Q : Value → Heap → Prop) : Post
  | .normal, a, H | .ret, a, H => resL P a H fn.results.toList fun vs => match vs with
    | [v] => Q v H
    | vs => Q (.tuple vs.toArray) H
  | _, _, _ => False

def enterA (fn : Func) (args : Array Value) : Act := { tmps := args ++ Array.replicate (fn.ntmps - args.size) undef, defers := [] }

structure Good (P : Program) : Prop where
  mixed : P.follows .mixedOrders = true
  names : P.funcs.all (fun fn => fn.name != "runtime.NumGoroutine") = true

end Kw
