/- What one operation does to a T state. -/
import Derived.Test.YtacfohamlkbpjaaTe
namespace Go.Proofs.Ytacfohamlkbpjaa
open Go Go.RowKit

def ofV : Value → Cell
  | .slice none 0 0 => .nil
  | v => .prim v

def evT (t : List TV) : Operand → TV
  | .tmp i => t.getD i .undef
  | .const v => if v.oneCell' then .v false [ofV v] else .undef
  | _ => .undef

def Cell.own? : Cell → Bool
  | .sl true .. => true
  | _ => false

def szT (P : Program) (t : TypeId) : Option Nat := (P.info? t).map (·.size)
def rowT (P : Program) (t : TypeId) : Option Bool := (P.underlying t).map (·.isRow)
def zeroT (P : Program) (t : TypeId) : Option (List Cell) :=
  match P.info? t with
  | some i => match i.zero with
    | some z => if z.cells.size = i.size ∧ z.cells.toList.all (·.oneCell') = true then some (z.cells.toList.map ofV) else none
    | none => none
  | none => none

def bitT (op : BinOp) (k : IntKind) (x y : Int) : Option Value :=
  match op with
  | .and => some (.int k (k.wrap (BitVec.ofInt k.bits x &&& BitVec.ofInt k.bits y).toNat))
  | .or => some (.int k (k.wrap (BitVec.ofInt k.bits x ||| BitVec.ofInt k.bits y).toNat))
  | .xor => some (.int k (k.wrap (BitVec.ofInt k.bits x ^^^ BitVec.ofInt k.bits y).toNat))
  | _ => none

def intT (op : BinOp) (k : IntKind) (a b : Int) : Option Value :=
  match op with
  | .add => some (.int k (k.wrap (a + b)))
  | .sub => some (.int k (k.wrap (a - b)))
  | .mul => some (.int k (k.wrap (a * b)))
  | .quo => if b = 0 then none else some (.int k (k.wrap (a.tdiv b)))
  | .rem => if b = 0 then none else some (.int k (a.tmod b))
  | .eql => some (.bool (a == b))
  | .neq => some (.bool (a != b))
  | .lss => some (.bool (a < b))
  | .leq => some (.bool (a ≤ b))
  | .gtr => some (.bool (a > b))
  | .geq => some (.bool (a ≥ b))
  | op => bitT op k a b

def strT (op : BinOp) (x y : ByteArray) : Option Value :=
  match op with
  | .add => if x.size + y.size ≤ 9223372036854775807 then some (.string (x ++ y)) else none
  | .eql => some (.bool (x.toList == y.toList))
  | .neq => some (.bool !(x.toList == y.toList))
  | .lss => some (.bool (Op.bytesLess x.toList y.toList))
  | .leq => some (.bool (Op.bytesLess x.toList y.toList || x.toList == y.toList))
  | .gtr => some (.bool !(Op.bytesLess x.toList y.toList || x.toList == y.toList))
  | .geq => some (.bool !(Op.bytesLess x.toList y.toList))
  | _ => none

def binT (P : Program) (op : BinOp) (t : TypeId) (x y : Value) : Option Value :=
  match op, x, y with
  | .shl, .int k a, .int _ b => if b < 0 then none else some (.int k (k.wrap (a * 2 ^ (min b.toNat k.bits))))
  | .shr, .int k a, .int _ b => if b < 0 then none else some (.int k (a.fdiv (2 ^ (min b.toNat k.bits))))
  | op, .int k a, .int k' b => if k = k' then intT op k a b else none
  | op, .string a, .string b => strT op a b
  | .eql, .bool a, .bool b => match P.underlying t with | some .bool => some (.bool (a == b)) | _ => none
  | .neq, .bool a, .bool b => match P.underlying t with | some .bool => some (.bool !(a == b)) | _ => none
  | _, _, _ => none

/-- Equality of structs whose fields are all numbers, bools or texts. -/
def eqCell (P : Program) (t : TypeId) : Option Cell → Option Cell → Option Bool
  | some (.prim (.int k a)), some (.prim (.int k' b)) => match P.underlying t with | some (.int _) => if k = k' then some (a == b) else none | _ => none
  | some (.prim (.bool a)), some (.prim (.bool b)) => match P.underlying t with | some .bool => some (a == b) | _ => none
  | some (.prim (.string a)), some (.prim (.string b)) => match P.underlying t with | some .string => some (a == b) | _ => none
  | _, _ => none

def eqFields (P : Program) (xs ys : List Cell) : List Field → Option Bool
  | [] => some true
  | f :: fs => if f.name = "_" then none else
    match eqCell P f.type xs[f.offset]? ys[f.offset]? with
    | some true => eqFields P xs ys fs
    | some false => some false
    | none => none

def eqStruct (P : Program) (t : TypeId) (xs ys : List Cell) : Option Bool :=
  if P.stoodInHeld t = true ∨ P.eqGuardType P.depth t = true then none else
  match P.underlying t with
  | some (.struct fs) => eqFields P xs ys fs.toList
  | _ => none

def unT (op : UnOp) (x : Value) : Option Value :=
  match op, x with
  | .neg, .int k n => some (.int k (k.wrap (0 - n)))
  | .xor, .int k n => bitT .xor k (if k.signed then -1 else k.max) n
  | .not, .bool b => some (.bool !b)
  | _, _ => none

def byteC (s : List UInt8) : List Cell := s.map fun b => .prim (.int .u8 b.toNat)

def strOf : List Cell → Option (List UInt8)
  | [] => some []
  | .prim (.int .u8 n) :: l => (strOf l).map (UInt8.ofNat n.toNat :: ·)
  | _ => none

def putAt (cs : List Cell) (off : Nat) (l : List Cell) : List Cell := cs.take off ++ l ++ cs.drop (off + l.length)

def fillT (place : Nat → Option (Nat × Nat)) : List Cell → List (Nat × TV) → Option (List Cell)
  | cs, [] => some cs
  | cs, (i, .v _ l) :: r => match place i with
    | some (off, size) => if l.length = size ∧ off + size ≤ cs.length then fillT place (putAt cs off l) r else none
    | none => none
  | _, _ => none

def zerosT (z : List Cell) (n : Nat) : List Cell := (List.replicate n z).flatten

/-- Where field `f` of struct type `s` lies, and its type. -/
def fieldT (P : Program) (s : TypeId) (f : Nat) : Option Field :=
  match P.underlying s with
  | some (.struct fs) => fs[f]?
  | _ => none

/-- The element type of a slice type, its size and its bytes. -/
def elemT (P : Program) (t : TypeId) : Option TypeId :=
  match P.underlying t with
  | some (.slice e) => some e
  | _ => none

def sliceT (x : Cell) (s lo hi : Nat) : Option Cell :=
  if lo ≤ hi then
    match x with
    | .nil => if hi = 0 then some .nil else none
    | .sl false n s' l => if hi ≤ n ∧ s' = s then some (.sl false (hi - lo) s ((l.drop (lo * s)).take ((hi - lo) * s))) else none
    | .ref id off n s' => if hi ≤ n ∧ s' = s then (if lo = hi then some (.sl false 0 s []) else some (.ref id (off + lo * s) (hi - lo) s)) else none
    | _ => none
  else none

def boundT (d : Nat) : Option TV → Option Nat
  | none => some d
  | some (.v false [.prim (.int _ i)]) => if 0 ≤ i then some i.toNat else none
  | _ => none

/-- The elements that a slice (or a text, as bytes) has: how many, and their cells. -/
def srcT (h : Nat → Option Node) (s : Nat) : TV → Option (Nat × List Cell)
  | .v false [.nil] => some (0, [])
  | .v false [.sl false n s' l] => if s' = s then some (n, l) else none
  | .v false [.ref id off n s'] => match h id with
    | some (_, cs) => if s' = s ∧ off + n * s ≤ cs.length ∧ ((cs.drop off).take (n * s)).all (fun c => !c.own?) = true then some (n, (cs.drop off).take (n * s)) else none
    | none => none
  | .v false [.prim (.string b)] => if s = 1 then some (b.size, byteC b.data.toList) else none
  | _ => none

/-- May a value of this type be appended whole? -/
def srcTy (P : Program) (t : TypeId) : Bool := (elemT P t).isSome || (match P.underlying t with | some .string => true | _ => false)

/-- Where the fields of a struct lie, and how many cells they have. -/
def placeT (P : Program) (fs : Array Field) (i : Nat) : Option (Nat × Nat) :=
  match fs[i]? with
  | some f => (szT P f.type).map fun s => (f.offset, s)
  | none => none

def appendT (P : Program) (h : Nat → Option Node) (nid : Nat) (ts tx : TypeId) (s x : TV) : Option (TV × List (Nat × Option Node)) :=
  match elemT P ts with
  | none => none
  | some e => match P.info? e, zeroT P e with
    | some i, some _ =>
      if srcTy P tx = true ∧ i.size ≠ 0 then
      match srcT h i.size x with
      | some (m, N) =>
        match s with
        | .v false [.nil] =>
            if m ≤ 140737488355328 ∧ m * i.bytes ≤ 140737488355328 then some (.v false [.ref nid 0 m i.size], [(nid, some (true, N))]) else none
        | .v false [.ref id off n s'] =>
          if s' = i.size then
            match h id with
            | some (true, cs) =>
              if off + n * s' ≤ cs.length ∧ n + m ≤ 140737488355328 ∧ (n + m) * i.bytes ≤ 140737488355328 then
                some (.v false [.ref nid 0 (n + m) s'], [(id, none), (nid, some (true, (cs.drop off).take (n * s') ++ N))]) else none
            | _ => none
          else none
        | _ => none
      | none => none
      else none
    | _, _ => none

def lenT (P : Program) (t : TypeId) : TV → Option Nat
  | .v false [.prim (.string s)] => match P.underlying t with | some .string => some s.size | _ => none
  | .v false [.nil] => (elemT P t).map fun _ => 0
  | .v false [.sl _ n _ _] => (elemT P t).map fun _ => n
  | .v false [.ref _ _ n _] => (elemT P t).map fun _ => n
  | _ => none

/-- How many elements a slice has. -/
def nOf : Cell → Option Nat
  | .nil => some 0
  | .sl _ n _ _ => some n
  | .ref _ _ n _ => some n
  | _ => none

def callT (P : Program) (h : Nat → Option Node) (nid : Nat) (b : Builtin) (tys : List TypeId) (args : List TV) : Option (TV × List (Nat × Option Node)) :=
  match b, tys, args with
  | .append, [ts, tx], [s, x] => appendT P h nid ts tx s x
  | .len, [t], [x] => (lenT P t x).map fun (n : Nat) => (TV.v false [.prim (.int .i64 (n : Int))], [])
  | .max, _, [.v false [.prim (.int k a)], .v false [.prim (.int _ b)]] => some (.v false [.prim (.int k (if b > a then b else a))], [])
  | .min, _, [.v false [.prim (.int k a)], .v false [.prim (.int _ b)]] => some (.v false [.prim (.int k (if b < a then b else a))], [])
  | _, _, _ => none

def eff (P : Program) (h : Nat → Option Node) (nid : Nat) (ev : Operand → TV) (op : Op) : Option (TV × List (Nat × Option Node)) :=
  match op with
  | .move x | .assign x => some (ev x, [])
  | .pick c a b => match ev c with
    | .v false [.prim (.bool t)] => some (if t then ev a else ev b, [])
    | _ => none
  | .alloc t => (zeroT P t).map fun z => (.v false [.ptr nid 0], [(nid, some (true, z))])
  | .box _ x => match ev x with
    | .v _ l => some (.v false [.ptr nid 0], [(nid, some (true, l))])
    | _ => none
  | .build t parts => match P.underlying t, zeroT P t with
    | some (.struct fs), some z => if fs.toList.all (fun f => (szT P f.type).isSome) = true then (fillT (placeT P fs) z (parts.toList.map fun p => (p.1, ev p.2))).map fun cs => (.v true cs, []) else none
    | _, _ => none
  | .buildSlice t n parts => match elemT P t with
    | some e => match zeroT P e with
      | some z => if n * z.length ≤ 16777216 ∧ z.length ≠ 0 then
          (fillT (fun i => some (i * z.length, z.length)) (zerosT z n) (parts.toList.map fun p => (p.1, ev p.2))).map fun cs => (.v false [.ref nid 0 n z.length], [(nid, some (true, cs))])
        else none
      | none => none
    | none => none
  | .load t a => match szT P t, rowT P t with
    | some s, some r => if r = true ∨ s = 1 then
        match ev a with
        | .v false [.ptr id off] => match h id with
          | some (_, cs) => if off + s ≤ cs.length ∧ ((cs.drop off).take s).all (fun c => !c.own?) = true then some (.v r ((cs.drop off).take s), []) else none
          | none => none
        | .v false [.rop l] => if s ≤ l.length then some (.v r (l.take s), []) else none
        | _ => none
      else none
    | _, _ => none
  | .store t a x => match ev a, ev x with
    | .v false [.ptr id off], .v _ l => match h id with
      | some (true, cs) => if szT P t = some l.length ∧ off + l.length ≤ cs.length then some (.undef, [(id, some (true, putAt cs off l))]) else none
      | _ => none
    | _, _ => none
  | .nilCheck x => match ev x with
    | .v false [.ptr id off] => some (.v false [.ptr id off], [])
    | .v false [.rop l] => some (.v false [.rop l], [])
    | _ => none
  | .binOp op t x y _ => match ev x, ev y with
    | .v false [.prim a], .v false [.prim b] => (binT P op t a b).map fun r => (.v false [.prim r], [])
    | .v true l, .v true l' => match op with
      | .eql => (eqStruct P t l l').map fun r => (.v false [.prim (.bool r)], [])
      | .neq => (eqStruct P t l l').map fun r => (.v false [.prim (.bool !r)], [])
      | _ => none
    | _, _ => none
  | .unOp op _ x => match ev x with
    | .v false [.prim a] => (unT op a).map fun r => (.v false [.prim r], [])
    | _ => none
  | .convert s d x => match P.underlying s, P.underlying d, ev x with
    | some _, some (.int k), .v false [.prim (.int _ n)] => some (.v false [.prim (.int k (k.wrap n))], [])
    | some .string, some .string, .v false [.prim (.string b)] => some (.v false [.prim (.string b)], [])
    | some .string, some (.slice e), .v false [.prim (.string b)] => match P.underlying e with
      | some (.int .u8) => some (.v false [.sl false b.size 1 (byteC b.data.toList)], [])
      | _ => none
    | some (.slice e), some .string, x => match P.underlying e, srcT h 1 x, x with
      | some (.int .u8), some (_, N), .v false [c] => (match c with | .prim _ => none | _ => (strOf N).map fun b => (.v false [.prim (.string ⟨b.toArray⟩)], []))
      | _, _, _ => none
    | _, _, _ => none
  | .makeSlice t l c => match ev l, ev c, elemT P t with
    | .v false [.prim (.int _ n)], .v false [.prim (.int _ n')], some e => match P.info? e, zeroT P e with
      | some i, some z => if n = n' ∧ 0 ≤ n ∧ n ≤ 140737488355328 ∧ n.toNat * i.bytes ≤ 140737488355328 ∧ z.length ≠ 0 then some (.v false [.ref nid 0 n.toNat z.length], [(nid, some (true, zerosT z n.toNat))]) else none
      | _, _ => none
    | _, _, _ => none
  | .slice t x lo hi none => match ev x with
    | .v false [.prim (.string b)] => match P.underlying t, boundT 0 (lo.map ev), boundT b.size (hi.map ev) with
      | some .string, some l, some h => if l ≤ h ∧ h ≤ b.size then some (.v false [.prim (.string (b.extract l h))], []) else none
      | _, _, _ => none
    | .v false [c] => match elemT P t with
      | some e => match szT P e, nOf c with
        | some s, some n => match boundT 0 (lo.map ev), boundT n (hi.map ev) with
          | some l, some h => (sliceT c s l h).map fun c => (.v false [c], [])
          | _, _ => none
        | _, _ => none
      | none => none
    | _ => none
  | .fieldAddr s x f => match fieldT P s f with
    | some fd => match szT P fd.type with
      | some (_ + 1) => match ev x with
        | .v false [.ptr id off] => some (.v false [.ptr id (off + fd.offset)], [])
        | .v false [.rop l] => some (.v false [.rop (l.drop fd.offset)], [])
        | _ => none
      | _ => none
    | none => none
  | .field s x f => match fieldT P s f with
    | some fd => match szT P fd.type, rowT P fd.type, ev x with
      | some n, some r, .v true l => if (r = true ∨ n = 1) ∧ fd.offset + n ≤ l.length then some (.v r ((l.drop fd.offset).take n), []) else none
      | _, _, _ => none
    | none => none
  | .indexAddr t x i => match elemT P t with
    | some e => match szT P e, ev i with
      | some s, .v false [.prim (.int _ j)] => match ev x with
        | .v false [.ref id off n s'] => if 0 ≤ j ∧ j < n ∧ s' = s then some (.v false [.ptr id (off + j.toNat * s)], []) else none
        | .v false [.sl false n s' l] => if 0 ≤ j ∧ j < n ∧ s' = s then some (.v false [.rop ((l.drop (j.toNat * s)).take s)], []) else none
        | _ => none
      | _, _ => none
    | none => none
  | .index t x i => match P.underlying t, ev x, ev i with
    | some .string, .v false [.prim (.string b)], .v false [.prim (.int _ j)] => match b.data.toList[j.toNat]? with
      | some c => if 0 ≤ j then some (.v false [.prim (.int .u8 c.toNat)], []) else none
      | none => none
    | _, _, _ => none
  | .extract x i => match ev x with
    | .tup l => match l[i]? with
      | some (b, cs) => some (.v b cs, [])
      | none => none
    | _ => none
  | .call c => match c.callee with
    | .builtin b => callT P h nid b c.argTypes.toList (c.args.toList.map ev)
    | _ => none
  | _ => none

end Go.Proofs.Ytacfohamlkbpjaa
