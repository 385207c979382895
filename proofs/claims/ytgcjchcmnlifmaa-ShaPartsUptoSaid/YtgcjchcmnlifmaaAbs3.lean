/- The operations over abstract values: deterministic, without a program. -/
import Derived.Test.YtgcjchcmnlifmaaAbs2
namespace Go.Abs
open Go

/-- A constant of the program's text. -/
def toA : Value → AVal
  | .bool b => .bool b
  | .int k n => .int k n
  | .float k n => .float k n
  | .complex k a b => .cplx k a b
  | .string s => .str s.data.toList
  | .pointer none => .nilp
  | .slice none 0 0 => .nils
  | .map none => .nilm
  | .nilFunc => .nilf
  | .nilIface => .nili
  | _ => .undef

/-- What may lie in one cell. -/
def AVal.isCell : AVal → Bool
  | .undef | .agg _ | .tup _ => false
  | _ => true

def AVal.defd : AVal → Bool
  | .undef => false
  | _ => true

def aInt (op : BinOp) (k : IntKind) (x y : Int) : Option AVal :=
  match op with
  | .add => some (.int k (k.wrap (x + y)))
  | .sub => some (.int k (k.wrap (x - y)))
  | .mul => some (.int k (k.wrap (x * y)))
  | .quo => if y = 0 then none else some (.int k (k.wrap (x.tdiv y)))
  | .rem => if y = 0 then none else some (.int k (x.tmod y))
  | .and => some (.int k (k.wrap (BitVec.ofInt k.bits x &&& BitVec.ofInt k.bits y).toNat))
  | .or => some (.int k (k.wrap (BitVec.ofInt k.bits x ||| BitVec.ofInt k.bits y).toNat))
  | .xor => some (.int k (k.wrap (BitVec.ofInt k.bits x ^^^ BitVec.ofInt k.bits y).toNat))
  | .andNot => some (.int k (k.wrap (BitVec.ofInt k.bits x &&& ~~~ BitVec.ofInt k.bits y).toNat))
  | .eql => some (.bool (x == y))
  | .neq => some (.bool (x != y))
  | .lss => some (.bool (x < y))
  | .leq => some (.bool (x ≤ y))
  | .gtr => some (.bool (x > y))
  | .geq => some (.bool (x ≥ y))
  | _ => none

def aStr (op : BinOp) (x y : List UInt8) : Option AVal :=
  match op with
  | .add => if x.length + y.length ≤ 4611686018427387904 then some (.str (x ++ y)) else none
  | .eql => some (.bool (x == y))
  | .neq => some (.bool !(x == y))
  | .lss => some (.bool (Op.bytesLess x y))
  | .leq => some (.bool (Op.bytesLess x y || x == y))
  | .gtr => some (.bool !(Op.bytesLess x y || x == y))
  | .geq => some (.bool !(Op.bytesLess x y))
  | _ => none

/-- Arithmetic and comparison of numbers and texts. -/
def aBin (op : BinOp) (x y : AVal) : Option AVal :=
  match op, x, y with
  | .shl, .int k a, .int _ b => if b < 0 then none else some (.int k (k.wrap (a * 2 ^ (min b.toNat k.bits))))
  | .shr, .int k a, .int _ b => if b < 0 then none else some (.int k (a.fdiv (2 ^ (min b.toNat k.bits))))
  | op, .int k a, .int k' b => if k = k' then aInt op k a b else none
  | op, .str a, .str b => aStr op a b
  | _, _, _ => none

/-- What a cell of a comparable aggregate is. -/
inductive Ck where
  | int | str | bool
  deriving DecidableEq

def eqCell : Ck → AVal → AVal → Option Bool
  | .int, .int k a, .int k' b => if k = k' then some (a == b) else none
  | .str, .str a, .str b => some (a == b)
  | .bool, .bool a, .bool b => some (a == b)
  | _, _, _ => none

def eqCells : List Ck → List AVal → List AVal → Option Bool
  | [], [], [] => some true
  | k :: ks, x :: xs, y :: ys =>
    match eqCell k x y, eqCells ks xs ys with
    | some a, some b => some (a && b)
    | _, _ => none
  | _, _, _ => none

/-- '==' ('!=') of what is no number and no text. -/
inductive Ek where
  | bool | ptr | slice | map | func | agg (l : List Ck)

def aEq (ek : Ek) (H : AHeap) (x y : AVal) : Option Bool :=
  match ek, x, y with
  | .bool, .bool a, .bool b => some (a == b)
  | .ptr, .nilp, .nilp => some true
  | .ptr, .nilp, .ptr _ => some false
  | .ptr, .ptr _, .nilp => some false
  | .ptr, .ptr r, .ptr r' => if r.id = r'.id ∧ r.ver = verOf H r.id ∧ r'.ver = verOf H r.id then some (r.off == r'.off) else none
  | .slice, .nils, .nils => some true
  | .slice, .nils, .slice _ _ _ => some false
  | .slice, .slice _ _ _, .nils => some false
  | .map, .nilm, .nilm => some true
  | .map, .nilm, .map _ => some false
  | .map, .map _, .nilm => some false
  | .func, .nilf, .nilf => some true
  | .func, .nilf, .func _ _ _ => some false
  | .func, .func _ _ _, .nilf => some false
  | .agg l, .agg xs, .agg ys => eqCells l xs ys
  | _, _, _ => none

def aEql (neq : Bool) (ek : Ek) (H : AHeap) (x y : AVal) : Option AVal :=
  match aEq ek H x y with
  | some b => some (.bool (b != neq))
  | none => none

def aUn (op : UnOp) (x : AVal) : Option AVal :=
  match op, x with
  | .neg, .int k n => some (.int k (k.wrap (0 - n)))
  | .xor, .int k n => aInt .xor k (if k.signed then -1 else k.max) n
  | .not, .bool b => some (.bool !b)
  | _, _ => none

def aPick (c a b : AVal) : Option AVal :=
  match c with
  | .bool t => some (bif t then a else b)
  | _ => none

def aInt2 (k : IntKind) (x : AVal) : Option AVal :=
  match x with
  | .int _ n => some (.int k (k.wrap n))
  | _ => none

def aStr2 (x : AVal) : Option AVal :=
  match x with
  | .str s => some (.str s)
  | _ => none

/-- Cells of a live block. -/
def rdCells (H : AHeap) (r : Ref) (n : Nat) : Option (List AVal) :=
  match H[r.id]? with
  | some (.cells v _ cs) => if v = r.ver ∧ (0 < n → r.off + n ≤ cs.length) then some ((cs.drop r.off).take n) else none
  | _ => none

def splice {α : Type} (cs : List α) (off : Nat) (xs : List α) : List α := cs.take off ++ xs ++ cs.drop (off + xs.length)

def wrCells (H : AHeap) (r : Ref) (xs : List AVal) : Option AHeap :=
  match H[r.id]? with
  | some (.cells v kd cs) =>
    if v = r.ver ∧ kd ≠ .ro ∧ r.off + xs.length ≤ cs.length ∧ xs.all AVal.isCell = true then some (H.set r.id (.cells v kd (splice cs r.off xs))) else none
  | _ => none

def byteOf : AVal → Option UInt8
  | .int .u8 n => some (UInt8.ofNat n.toNat)
  | _ => none

def bytesOf : List AVal → Option (List UInt8)
  | [] => some []
  | x :: xs =>
    match byteOf x, bytesOf xs with
    | some a, some b => some (a :: b)
    | _, _ => none

def ofByte (b : UInt8) : AVal := .int .u8 b.toNat

def aBytes2Str (H : AHeap) (x : AVal) : Option AVal :=
  match x with
  | .nils => some (.str [])
  | .slice r n _ =>
    match rdCells H r n with
    | some cs => match bytesOf cs with | some s => some (.str s) | none => none
    | none => none
  | _ => none

def aStr2Bytes (H : AHeap) (x : AVal) : Option (AVal × AHeap) :=
  match x with
  | .str s => if s.length ≤ 4611686018427387904 then some (.slice ⟨H.length, 0, 0⟩ s.length (.op 1), H ++ [.cells 0 .opn (s.map ofByte)]) else none
  | _ => none

def aAlloc (H : AHeap) (z : List AVal) : Option (AVal × AHeap) :=
  some (.ptr ⟨H.length, 0, 0⟩, H ++ [.cells 0 .exact z])

def aBox (H : AHeap) (x : AVal) : Option (AVal × AHeap) :=
  if x.defd = true then some (.ptr ⟨H.length, 0, 0⟩, H ++ [.cells 0 .exact x.cells]) else none

def fillA (place : Nat → Option (Nat × Nat)) (cells : List AVal) : List (Nat × AVal) → Option (List AVal)
  | [] => some cells
  | (i, v) :: rest =>
    match place i with
    | none => none
    | some (off, size) => if v.defd = true ∧ v.cells.length = size ∧ off + v.cells.length ≤ cells.length then fillA place (splice cells off v.cells) rest else none

def aBuild (zero : List AVal) (place : Nat → Option (Nat × Nat)) (parts : List (Nat × AVal)) : Option AVal :=
  match fillA place zero parts with
  | some cs => some (.agg cs)
  | none => none

def fillCells (n : Nat) (zero : List AVal) : List AVal := (List.replicate n zero).flatten

def aBuildSlice (H : AHeap) (es : Nat) (zero : List AVal) (len : Nat) (parts : List (Nat × AVal)) : Option (AVal × AHeap) :=
  match fillA (fun i => some (i * es, es)) (fillCells len zero) parts with
  | some cs => some (.slice ⟨H.length, 0, 0⟩ len (.ex len), H ++ [.cells 0 .exact cs])
  | none => none

def aLoad (H : AHeap) (agg : Bool) (n : Nat) (x : AVal) : Option AVal :=
  match x with
  | .ptr r =>
    match rdCells H r (bif agg then n else 1) with
    | some cs => bif agg then some (.agg cs) else cs.head?
    | none => none
  | _ => none

def aStore (H : AHeap) (n : Nat) (x v : AVal) : Option AHeap :=
  match x with
  | .ptr r => if v.cells.length = n then wrCells H r v.cells else none
  | _ => none

def aNilCheck (x : AVal) : Option AVal :=
  match x with
  | .ptr r => some (.ptr r)
  | .func (.func f) a b => some (.func (.func f) a b)
  | _ => none

def aFieldAddr (off : Nat) (x : AVal) : Option AVal :=
  match x with
  | .ptr r => some (.ptr { r with off := r.off + off })
  | _ => none

/-- The place of an element of a slice. -/
def aIndexAddr (es : Nat) (x i : AVal) : Option AVal :=
  match x, i with
  | .slice r n _, .int _ k => if 0 ≤ k ∧ k < n then some (.ptr { r with off := r.off + k.toNat * es }) else none
  | _, _ => none

def aIndexAddrArr (n es : Nat) (x i : AVal) : Option AVal :=
  match x, i with
  | .ptr r, .int _ k => if 0 ≤ k ∧ k < n then some (.ptr { r with off := r.off + k.toNat * es }) else none
  | _, _ => none

def aPart (agg : Bool) (n off : Nat) (cs : List AVal) : Option AVal :=
  bif agg then (if off + n ≤ cs.length then some (.agg ((cs.drop off).take n)) else none) else cs[off]?

def aField (agg : Bool) (n off : Nat) (x : AVal) : Option AVal :=
  match x with
  | .agg cs => aPart agg n off cs
  | _ => none

def aIndexArr (len : Nat) (agg : Bool) (es : Nat) (x i : AVal) : Option AVal :=
  match x, i with
  | .agg cs, .int _ k => if 0 ≤ k ∧ k < len then aPart agg es (k.toNat * es) cs else none
  | _, _ => none

def aIndexStr (x i : AVal) : Option AVal :=
  match x, i with
  | .str s, .int _ k => if 0 ≤ k then (match s[k.toNat]? with | some b => some (ofByte b) | none => none) else none
  | _, _ => none

def aExtract (x : AVal) (i : Nat) : Option AVal :=
  match x with
  | .tup vs => vs[i]?
  | _ => none

/-- A bound of a slice expression: what is written, or none. -/
def bnd (d : Nat) : Option AVal → Option Nat
  | none => some d
  | some (.int _ k) => if 0 ≤ k then some k.toNat else none
  | _ => none

def aSliceStr (x : AVal) (lo hi : Option AVal) : Option AVal :=
  match x with
  | .str s =>
    match bnd 0 lo, bnd s.length hi with
    | some l, some h => if l ≤ h ∧ h ≤ s.length then some (.str ((s.take h).drop l)) else none
    | _, _ => none
  | _ => none

def aSlice (H : AHeap) (es : Nat) (x : AVal) (lo hi mx : Option AVal) : Option AVal :=
  match x with
  | .nils =>
    match bnd 0 lo, bnd 0 hi, bnd 0 mx with
    | some 0, some 0, some 0 => some .nils
    | _, _, _ => none
  | .slice r n (.ex c) =>
    match bnd 0 lo, bnd n hi, bnd c mx with
    | some l, some h, some m =>
      if r.ver = verOf H r.id ∧ l ≤ h ∧ h ≤ m ∧ m ≤ c then some (.slice { r with off := if m = l then r.off else r.off + l * es } (h - l) (.ex (m - l))) else none
    | _, _, _ => none
  | .slice r n (.op es') =>
    match mx with
    | none =>
      match bnd 0 lo, bnd n hi with
      | some l, some h => if r.ver = verOf H r.id ∧ es' = es ∧ l ≤ h ∧ h ≤ n then some (.slice { r with off := r.off + l * es } (h - l) (.op es)) else none
      | _, _ => none
    | some _ =>
      match bnd 0 lo, bnd n hi, bnd n mx with
      | some l, some h, some m =>
        if r.ver = verOf H r.id ∧ l ≤ h ∧ h ≤ m ∧ m ≤ n ∧ 0 < n then some (.slice { r with off := if m = l then r.off else r.off + l * es } (h - l) (.ex (m - l))) else none
      | _, _, _ => none
  | _ => none

def aSliceArr (len es : Nat) (x : AVal) (lo hi mx : Option AVal) : Option AVal :=
  match x with
  | .ptr r =>
    match bnd 0 lo, bnd len hi, bnd len mx with
    | some l, some h, some m =>
      if l ≤ h ∧ h ≤ m ∧ m ≤ len then some (.slice { r with off := if m = l then r.off else r.off + l * es } (h - l) (.ex (m - l))) else none
    | _, _, _ => none
  | _ => none

def aLen (H : AHeap) (x : AVal) : Option AVal :=
  match x with
  | .str s => some (.int .i64 s.length)
  | .nils => some (.int .i64 0)
  | .slice _ n _ => some (.int .i64 n)
  | .nilm => some (.int .i64 0)
  | .map i => match H[i]? with | some (.map _ es) => some (.int .i64 es.length) | _ => none
  | _ => none

def lenSt (x : AVal) : Option AVal :=
  match x with
  | .str s => some (.int .i64 s.length)
  | _ => none
def lenSl (x : AVal) : Option AVal :=
  match x with
  | .nils => some (.int .i64 0)
  | .slice _ n _ => some (.int .i64 n)
  | _ => none
def lenMp (H : AHeap) (x : AVal) : Option AVal :=
  match x with
  | .nilm => some (.int .i64 0)
  | .map i => match H[i]? with | some (.map _ es) => some (.int .i64 es.length) | _ => none
  | _ => none

def aMakeSlice (H : AHeap) (bytes : Nat) (zero : List AVal) (len cap : AVal) : Option (AVal × AHeap) :=
  match len, cap with
  | .int _ n, .int _ c =>
    if 0 ≤ n ∧ n ≤ c ∧ bytes * c ≤ 140737488355328 ∧ c ≤ 4611686018427387904 then
      some (.slice ⟨H.length, 0, 0⟩ n.toNat (.ex c.toNat), H ++ [.cells 0 .exact (fillCells c.toNat zero)])
    else none
  | _, _ => none

/-- The cells that are appended or copied. -/
def srcCells (H : AHeap) (es n : Nat) (x : AVal) : Option (List AVal) :=
  match x with
  | .nils => some []
  | .str s => some ((s.take n).map ofByte)
  | .slice r _ _ => rdCells H r (n * es)
  | _ => none
def srcLen (x : AVal) : Option Nat :=
  match x with
  | .nils => some 0
  | .str s => some s.length
  | .slice _ n _ => some n
  | _ => none

def room : Nat := 35184372088832

def aAppendTo (H : AHeap) (es bytes : Nat) (s : AVal) (n : Nat) (xs : List AVal) : Option (AVal × AHeap) :=
  match s with
  | .nils =>
    if n = 0 then some (.nils, H)
    else if n * bytes ≤ room ∧ n ≤ room then some (.slice ⟨H.length, 0, 0⟩ n (.op es), H ++ [.cells 0 .opn xs])
    else none
  | .slice r k (.ex c) =>
    if n = 0 then (if r.ver = verOf H r.id ∧ k ≤ c then some (.slice r k (.ex c), H) else none)
    else if k + n ≤ c then
      match wrCells H { r with off := r.off + k * es } xs with
      | some H' => some (.slice r (k + n) (.ex c), H')
      | none => none
    else if (k + n) * bytes ≤ room ∧ k + n ≤ room then
      match rdCells H r (k * es) with
      | some old => some (.slice ⟨H.length, 0, 0⟩ (k + n) (.op es), H ++ [.cells 0 .opn (old ++ xs)])
      | none => none
    else none
  | .slice r k (.op es') =>
    if n = 0 then (if r.ver = verOf H r.id then some (.slice r k (.op es'), H) else none)
    else if es' = es ∧ 0 < es ∧ (k + n) * bytes ≤ room ∧ k + n ≤ room then
      match H[r.id]? with
      | some (.cells v .opn cs) =>
        if v = r.ver ∧ xs.all AVal.isCell = true then
          if r.off = 0 ∧ cs.length = k * es then some (.slice ⟨r.id, v + 1, 0⟩ (k + n) (.op es), H.set r.id (.cells (v + 1) .opn (cs ++ xs)))
          else if r.off + (k + n) * es ≤ cs.length then some (.slice r (k + n) (.op es), H.set r.id (.cells v .opn (splice cs (r.off + k * es) xs)))
          else none
        else none
      | _ => none
    else none
  | _ => none

def aAppend (H : AHeap) (es bytes : Nat) (s x : AVal) : Option (AVal × AHeap) :=
  match srcLen x with
  | some n => match srcCells H es n x with
    | some xs => aAppendTo H es bytes s n xs
    | none => none
  | none => none

/-- What is appended is a slice. -/
def aAppendS (H : AHeap) (es bytes : Nat) (s x : AVal) : Option (AVal × AHeap) :=
  match x with
  | .str _ => none
  | _ => aAppend H es bytes s x

def aCopy (H : AHeap) (es : Nat) (d x : AVal) : Option (AVal × AHeap) :=
  match srcLen x, d with
  | some n, .slice r k _ =>
    match srcCells H es (min n k) x with
    | some xs => match wrCells H r xs with
      | some H' => some (.int .i64 (min n k : Nat), H')
      | none => none
    | none => none
  | some _, .nils => some (.int .i64 0, H)
  | _, _ => none

def aCopyS (H : AHeap) (es : Nat) (d x : AVal) : Option (AVal × AHeap) :=
  match x with
  | .str _ => none
  | _ => aCopy H es d x

def aMin2 (x y : AVal) : Option AVal :=
  match x, y with
  | .int k a, .int _ b => some (.int k (if b < a then b else a))
  | _, _ => none
def aMax2 (x y : AVal) : Option AVal :=
  match x, y with
  | .int k a, .int _ b => some (.int k (if b > a then b else a))
  | _, _ => none
def aFold (f : AVal → AVal → Option AVal) : AVal → List AVal → Option AVal
  | x, [] => some x
  | x, y :: l => match f x y with | some z => aFold f z l | none => none

/-- Keys: one number, one text, or an array of numbers. -/
def keyEq (l : List Ck) (x y : AVal) : Option Bool :=
  match x, y with
  | .agg xs, .agg ys => eqCells l xs ys
  | x, y => match l with | [k] => eqCell k x y | _ => none

def findKey (l : List Ck) (k : AVal) : List (AVal × AVal) → Nat → Option (Option (Nat × AVal))
  | [], _ => some none
  | e :: es, i =>
    match keyEq l k e.1 with
    | some true => some (some (i, e.2))
    | some false => findKey l k es (i + 1)
    | none => none

def aLookup (H : AHeap) (l : List Ck) (zero : AVal) (ok : Bool) (x k : AVal) : Option AVal :=
  let out (v : AVal) (b : Bool) : AVal := bif ok then .tup [v, .bool b] else v
  match x with
  | .nilm => some (out zero false)
  | .map i =>
    match H[i]? with
    | some (.map _ es) =>
      match findKey l k es 0 with
      | some (some (_, v)) => some (out v true)
      | some none => some (out zero false)
      | none => none
    | _ => none
  | _ => none

def aMapUpdate (H : AHeap) (l : List Ck) (x k v : AVal) : Option AHeap :=
  match x with
  | .map i =>
    match H[i]? with
    | some (.map w es) =>
      match findKey l k es 0 with
      | some (some (j, _)) => some (H.set i (.map (w + 1) (es.set j (k, v))))
      | some none => some (H.set i (.map (w + 1) (es ++ [(k, v)])))
      | none => none
    | _ => none
  | _ => none

def aDelete (H : AHeap) (l : List Ck) (x k : AVal) : Option AHeap :=
  match x with
  | .nilm => some H
  | .map i =>
    match H[i]? with
    | some (.map w es) =>
      match findKey l k es 0 with
      | some (some (j, _)) => some (H.set i (.map (w + 1) (es.eraseIdx j)))
      | some none => some H
      | none => none
    | _ => none
  | _ => none

def aMakeMap (H : AHeap) : Option (AVal × AHeap) := some (.map H.length, H ++ [.map 0 []])

def aRangeStr (H : AHeap) (x : AVal) : Option (AVal × AHeap) :=
  match x with
  | .str s => some (.ptr ⟨H.length, 0, 0⟩, H ++ [.strIter s 0])
  | _ => none
def aRangeMap (H : AHeap) (x : AVal) : Option (AVal × AHeap) :=
  match x with
  | .nilm => some (.ptr ⟨H.length, 0, 0⟩, H ++ [.mapIter none []])
  | .map i => match H[i]? with
    | some (.map v es) => some (.ptr ⟨H.length, 0, 0⟩, H ++ [.mapIter (some (i, v)) es])
    | _ => none
  | _ => none

end Go.Abs
