/- Proved here: part 1 of a sound evaluator for the model: what it computes of a call, the call does. No condition. -/
import Derived.Orders
import GoSem.Claims
import Derived.Below
namespace Go.Abs
set_option linter.unusedVariables false

/-- Abstract values. -/
inductive V where
  | undef
  | bool (b : Bool)
  | int (k : IntKind) (n : Int)
  | str (s : List UInt8)
  | nils
  | nilm
  | nilx (k : Nat)
  | agg (cs : List V)
  | tuple (vs : List V)
  | sl (es : List V)
  | own (b tot off len : Nat)
  | ptr (b tot i off : Nat)
  | rop (e : V)
  | mapr (ks vs : List V)
  | map (b : Nat)
  | fn (f : Nat) (cs : List V)
  | meth (f : Nat) (cs : List V)
  | view (b tot i off len : Nat)
  deriving Inhabited

def V.cells : V → List V
  | .agg cs => cs
  | v => [v]

def V.isAgg : V → Bool
  | .agg _ => true
  | _ => false

/-- May a value be stored: are its cells single ones? -/
def V.storable : V → Bool
  | .undef | .tuple _ => false
  | _ => true

/-- Abstract blocks of a call's own. -/
inductive Blk where
  | dat (wr : Bool) (sz : Nat) (es : List V)
  | box (e : V)
  | map (wr : Bool) (ks vs : List V)
  | arr (t : Option TypeId) (sz : Nat) (es : List V)
  | dead
  deriving Inhabited

abbrev Heap := List Blk
abbrev Env := List (Nat × V)

def Env.get : Env → Nat → V
  | [], _ => .undef
  | (j, v) :: r, i => if i = j then v else Env.get r i

def Env.put (e : Env) : Option Nat → V → Env
  | some d, v => (d, v) :: e
  | none, _ => e

mutual
def ofVal : Value → V
  | .bool b => .bool b
  | .int k n => .int k n
  | .string s => .str s.data.toList
  | .slice none 0 0 => .nils
  | .map none => .nilm
  | .pointer none => .nilx 0
  | .nilFunc => .nilx 1
  | .nilIface => .nilx 2
  | .agg ⟨cs⟩ => if cs.all (fun c => match c with | .agg _ | .tuple _ => false | _ => true) then .agg (ofVals cs) else .undef
  | _ => .undef
def ofVals : List Value → List V
  | [] => []
  | c :: cs => ofVal c :: ofVals cs
end

def evO (env : Env) : Operand → V
  | .tmp t => env.get t
  | .const c => ofVal c
  | .func f => .fn f []
  | .global _ => .undef

def aggT (P : Program) (t : TypeId) : Option Bool :=
  match P.underlying t with
  | some (.struct _) | some (.array _ _) => some true
  | some _ => some false
  | none => none

/-- The cells of a variable of type t as a value. -/
def mk (P : Program) (t : TypeId) (cs : List V) : Option V :=
  match aggT P t with
  | some true => some (.agg cs)
  | some false => match cs with
    | [c] => if c.isAgg then none else some c
    | _ => none
  | none => none

/-- A part of a value: 'size' cells from 'off' on, as a value of type t. -/
def sub (P : Program) (t : TypeId) (e : V) (off : Nat) : Option V :=
  match (P.info? t).map (·.size) with
  | none => none
  | some n =>
    if off = 0 ∧ n = e.cells.length ∧ some e.isAgg = aggT P t then some e
    else if off + n ≤ e.cells.length then mk P t ((e.cells.drop off).take n) else none

def setSub (e : V) (off : Nat) (x : V) : Option V :=
  match e with
  | .agg cs => if off = 0 ∧ x.isAgg = true ∧ x.cells.length = cs.length then some x
      else if off + x.cells.length ≤ cs.length then some (.agg (cs.take off ++ x.cells ++ cs.drop (off + x.cells.length))) else none
  | _ => if off = 0 ∧ x.isAgg = false then some x else none

/-- A run that asks the program's tables alone. -/
def pureRun {α : Type} (P : Program) : Sem α → Option α
  | .pure a => some a
  | .program k => pureRun P (k P)
  | _ => none

mutual
def toVal : V → Option Value
  | .bool b => some (.bool b)
  | .int k n => some (.int k n)
  | .str s => some (.string ⟨s.toArray⟩)
  | .agg cs => (toVals cs).map fun l => .agg l.toArray
  | _ => none
def toVals : List V → Option (List Value)
  | [] => some []
  | c :: cs => match toVal c, toVals cs with
    | some v, some vs => some (v :: vs)
    | _, _ => none
end

def u8s (s : List UInt8) : List V := s.map fun b => .int .u8 b.toNat

def ofU8s : List V → Option (List UInt8)
  | [] => some []
  | .int .u8 n :: r => (ofU8s r).map (UInt8.ofNat n.toNat :: ·)
  | _ => none

/-- Is a block as it was when a value that leads to it was made? -/
def live (H : Heap) (b tot : Nat) : Bool :=
  match H[b]? with
  | some (.box _) => tot == 1
  | some (.dat _ sz es) => es.length == tot
  | some (.arr _ _ es) => es.length == tot
  | _ => false

/-- The elements of a slice. -/
def elems (H : Heap) : V → Option (List V)
  | .sl es => some es
  | .nils => some []
  | .own b tot off len => match H[b]? with
    | some (.dat _ sz es) => if es.length = tot then some (if off = 0 ∧ len = tot then es else (es.drop off).take len) else none
    | _ => none
  | _ => none

/-- What append and copy read. -/
def srcV (H : Heap) : V → Option (List V)
  | .str b => some (u8s b)
  | x => elems H x

def lenV (H : Heap) : V → Option Nat
  | .sl es => some es.length
  | .nils => some 0
  | .str s => some s.length
  | .own b tot _ len => if live H b tot then some len else none
  | .view b tot _ _ len => if live H b tot then some len else none
  | .map b => match H[b]? with
    | some (.map _ ks _) => some ks.length
    | _ => none
  | .mapr ks _ => some ks.length
  | .nilm => some 0
  | _ => none

mutual
/-- A value that refers to no block of the call's own; and the blocks that were looked into. -/
def sealV (H : Heap) : V → Option (V × List Nat)
  | .own b tot off len => match H[b]? with
    | some (.dat _ sz es) => if es.length = tot then some (.sl (if off = 0 ∧ len = tot then es else (es.drop off).take len), [b]) else none
    | _ => none
  | .map b => match H[b]? with
    | some (.map _ ks vs) => some (.mapr ks vs, [b])
    | _ => none
  | .ptr .. | .rop _ | .fn .. | .meth .. | .view .. => none
  | .agg cs => match sealL H cs with
    | some (cs', bs) => some (.agg cs', bs)
    | none => none
  | .tuple cs => match sealL H cs with
    | some (cs', bs) => some (.tuple cs', bs)
    | none => none
  | .nils => some (.sl [], [])
  | .nilm => some (.mapr [] [], [])
  | v => some (v, [])
def sealL (H : Heap) : List V → Option (List V × List Nat)
  | [] => some ([], [])
  | c :: cs => match sealV H c, sealL H cs with
    | some (c', b), some (cs', bs) => some (c' :: cs', b ++ bs)
    | _, _ => none
end

mutual
/-- Does a value lead to memory that was there? -/
def hasRo : V → Bool
  | .sl es => !es.isEmpty
  | .rop _ | .mapr .. => true
  | .agg cs | .tuple cs | .fn _ cs | .meth _ cs => hasRoL cs
  | _ => false
def hasRoL : List V → Bool
  | [] => false
  | c :: cs => hasRo c || hasRoL cs
end

def hasRoB : Blk → Bool
  | .dat _ _ es => hasRoL es
  | .box e => hasRo e
  | .map _ ks vs => hasRoL ks || hasRoL vs
  | .arr _ _ es => hasRoL es
  | .dead => false

mutual
def refs : V → List Nat
  | .own b _ _ _ => [b]
  | .ptr b _ _ _ => [b]
  | .map b => [b]
  | .view b _ _ _ _ => [b]
  | .agg cs | .tuple cs | .fn _ cs | .meth _ cs => refsL cs
  | _ => []
def refsL : List V → List Nat
  | [] => []
  | c :: cs => refs c ++ refsL cs
end

mutual
/-- The blocks renamed; what is not named any more is unknown. -/
def ren (ρ : Nat → Option Nat) : V → V
  | .own b t o l => match ρ b with
    | some b' => .own b' t o l
    | none => .undef
  | .ptr b t i o => match ρ b with
    | some b' => .ptr b' t i o
    | none => .undef
  | .map b => match ρ b with
    | some b' => .map b'
    | none => .undef
  | .agg cs => .agg (renL ρ cs)
  | .tuple cs => .tuple (renL ρ cs)
  | .fn f cs => .fn f (renL ρ cs)
  | .meth f cs => .meth f (renL ρ cs)
  | .view b t i o l => match ρ b with
    | some b' => .view b' t i o l
    | none => .undef
  | .rop e => .rop (ren ρ e)
  | v => v
def renL (ρ : Nat → Option Nat) : List V → List V
  | [] => []
  | c :: cs => ren ρ c :: renL ρ cs
end

def renB (ρ : Nat → Option Nat) : Blk → Blk
  | .box e => .box (ren ρ e)
  | .arr t sz es => .arr t sz (renL ρ es)
  | b => b

/-- The blocks that a list of blocks leads to, by first visit. -/
def reach (H : Heap) : Nat → List Nat → List Nat → List Nat
  | 0, _, seen => seen
  | _ + 1, [], seen => seen
  | n + 1, b :: todo, seen =>
    if seen.contains b then reach H n todo seen
    else reach H n ((match H[b]? with | some (.box e) => refs e | some (.arr _ _ es) => refsL es | _ => []) ++ todo) (seen ++ [b])

def indexOf (b : Nat) : List Nat → Nat → Option Nat
  | [], _ => none
  | c :: cs, i => if b = c then some i else indexOf b cs (i + 1)

/-- The renaming that keeps the blocks below h0 and those of K. -/
def toK (h0 : Nat) (K : List Nat) (b : Nat) : Option Nat := if b < h0 then some b else indexOf b K h0

def blocksOf (H : Heap) : List Nat → Option Heap
  | [] => some []
  | b :: bs => match H[b]?, blocksOf H bs with
    | some x, some r => some (x :: r)
    | _, _ => none

def nodup : List Nat → Bool
  | [] => true
  | b :: bs => !bs.contains b && nodup bs

/-- The heap with the blocks below h0 and those of K alone. -/
def pack (h0 : Nat) (K : List Nat) (H : Heap) : Option Heap :=
  if nodup K && K.all (h0 ≤ ·) then
    match blocksOf H K with
    | some r => some ((H.take h0 ++ r).map (renB (toK h0 K)))
    | none => none
  else none

def refsOf (env : Env) : List Nat → List Nat
  | [] => []
  | i :: r => refs (env.get i) ++ refsOf env r

def refsH : Heap → List Nat
  | [] => []
  | .box e :: r => refs e ++ refsH r
  | .arr _ _ es :: r => refsL es ++ refsH r
  | _ :: r => refsH r

def above (h0 : Nat) : List Nat → List Nat
  | [] => []
  | b :: r => if h0 ≤ b then b :: above h0 r else above h0 r

/-- The head of a loop: the slots named alone, the blocks that they lead to alone. -/
def atHead (h0 : Nat) (ks : List Nat) (env : Env) (H : Heap) : Option (Env × Heap) :=
  let K := above h0 (reach H (H.length * (H.length + 1) + 100) (refsH (H.take h0) ++ refsOf env ks) [])
  match pack h0 K H with
  | some H' => some (ks.map fun i => (i, ren (toK h0 K) (env.get i)), H')
  | none => none

def freeze (H : Heap) : List Nat → Heap
  | [] => H
  | b :: bs => freeze (match H[b]? with
    | some (.dat _ sz es) => H.set b (.dat false sz es)
    | some (.map _ ks vs) => H.set b (.map false ks vs)
    | _ => H) bs

/-- nil made a slice of the call's own, empty; 's' cells an element. -/
def ownify (s : Nat) (v : V) (H : Heap) : V × Heap :=
  match v with
  | .nils => if s = 0 then (v, H) else (.own H.length 0 0 0, H ++ [.dat true s []])
  | _ => (v, H)

def ownifyL : List Nat → List V → Heap → List V × Heap
  | s :: ss, c :: cs, H => ((ownify s c H).1 :: (ownifyL ss cs (ownify s c H).2).1, (ownifyL ss cs (ownify s c H).2).2)
  | _, cs, H => (cs, H)

def fillV (place : Nat → Option (Nat × Nat)) (cells : List V) : List (Nat × V) → Option (List V)
  | [] => some cells
  | (i, v) :: rest =>
    match place i with
    | none => none
    | some (off, size) =>
      if v.cells.length ≠ size ∨ off + size > cells.length ∨ v.storable = false then none
      else fillV place (cells.take off ++ v.cells ++ cells.drop (off + size)) rest

/-- 2^40: what a slice of the call's own may hold, in bytes. -/
def room : Nat := 1099511627776

def sameKey : V → V → Option Bool
  | .int k a, .int k' b => if k = k' then some (a == b) else none
  | .str a, .str b => some (a == b)
  | .bool a, .bool b => some (a == b)
  | _, _ => none

def findK (k : V) : List V → List V → Option (Option V)
  | [], _ => some none
  | c :: cs, v :: vs => match sameKey k c with
    | some true => some (some v)
    | some false => findK k cs vs
    | none => none
  | _, _ => none

def setK (k x : V) : List V → List V → List V
  | c :: cs, v :: vs => match sameKey k c with
    | some true => x :: vs
    | _ => v :: setK k x cs vs
  | _, vs => vs

def strOp (op : BinOp) (x y : List UInt8) : Option V :=
  match op with
  | .add => if x.length + y.length ≤ room then some (.str (x ++ y)) else none
  | .eql => some (.bool (x == y))
  | .neq => some (.bool !(x == y))
  | .lss => some (.bool (Op.bytesLess x y))
  | .leq => some (.bool (Op.bytesLess x y || x == y))
  | .gtr => some (.bool !(Op.bytesLess x y || x == y))
  | .geq => some (.bool !(Op.bytesLess x y))
  | _ => none

def intOp (op : BinOp) (k : IntKind) (a b : Int) : Option V :=
  match op with
  | .add => some (.int k (k.wrap (a + b)))
  | .sub => some (.int k (k.wrap (a - b)))
  | .mul => some (.int k (k.wrap (a * b)))
  | .quo => if b = 0 then none else some (.int k (k.wrap (a.tdiv b)))
  | .rem => if b = 0 then none else some (.int k (a.tmod b))
  | .and => some (.int k (k.wrap (BitVec.ofInt k.bits a &&& BitVec.ofInt k.bits b).toNat))
  | .or => some (.int k (k.wrap (BitVec.ofInt k.bits a ||| BitVec.ofInt k.bits b).toNat))
  | .xor => some (.int k (k.wrap (BitVec.ofInt k.bits a ^^^ BitVec.ofInt k.bits b).toNat))
  | .andNot => some (.int k (k.wrap (BitVec.ofInt k.bits a &&& ~~~ BitVec.ofInt k.bits b).toNat))
  | .eql => some (.bool (a == b))
  | .neq => some (.bool (a != b))
  | .lss => some (.bool (decide (a < b)))
  | .leq => some (.bool (decide (a ≤ b)))
  | .gtr => some (.bool (decide (a > b)))
  | .geq => some (.bool (decide (a ≥ b)))
  | _ => none

def shiftOp (op : BinOp) (k : IntKind) (a b : Int) : Option V :=
  if b < 0 then none else
  match op with
  | .shl => some (.int k (k.wrap (a * 2 ^ (min b.toNat k.bits))))
  | .shr => some (.int k (a.fdiv (2 ^ (min b.toNat k.bits))))
  | _ => none

def isShift : BinOp → Bool
  | .shl | .shr => true
  | _ => false

def binV (P : Program) (op : BinOp) (t : TypeId) (x y : V) : Option V :=
  match x, y with
  | .int k a, .int k' b => if isShift op then shiftOp op k a b else if k = k' then intOp op k a b else none
  | .str a, .str b => strOp op a b
  | .bool a, .bool b => if P.underlying t matches some .bool then match op with
    | .eql => some (.bool (a == b))
    | .neq => some (.bool (!(a == b)))
    | _ => none
    else none
  | .agg _, .agg _ => match op with
    | .eql | .neq => match toVal x, toVal y with
      | some a, some b => if P.eqGuardType P.depth t then none else match pureRun P (Op.equal t a b) with
        | some r => some (.bool (if op matches .eql then r else !r))
        | none => none
      | _, _ => none
    | _ => none
  | _, _ => none

def unV (op : UnOp) (x : V) : Option V :=
  match op, x with
  | .neg, .int k n => some (.int k (k.wrap (0 - n)))
  | .xor, .int k n => intOp .xor k (if k.signed then -1 else k.max) n
  | .not, .bool b => some (.bool !b)
  | _, _ => none

def isIntT (P : Program) (t : TypeId) : Bool :=
  match P.underlying t with
  | some (.int _) => true
  | _ => false
def isStrT (P : Program) (t : TypeId) : Bool :=
  match P.underlying t with
  | some .string => true
  | _ => false
def isBoolT (P : Program) (t : TypeId) : Bool :=
  match P.underlying t with
  | some .bool => true
  | _ => false

def idx? : V → Option Nat
  | .int _ (.ofNat n) => some n
  | _ => none

def loIdx : Option V → Option Nat
  | some v => idx? v
  | none => some 0
def hiIdx : Option V → Nat → Option Nat
  | some v, _ => idx? v
  | none, n => some n

def convV (P : Program) (src dst : TypeId) (x : V) (H : Heap) : Option (V × Heap) :=
  if (P.underlying src).isNone then none else
  match P.underlying dst, x with
  | some (.int k), .int _ n => some (.int k (k.wrap n), H)
  | some .string, .str s => some (.str s, H)
  | some (.slice e), .str s => match P.underlying e with
    | some (.int .u8) => if s.length ≤ room ∧ isStrT P src = true then some (.own H.length s.length 0 s.length, H ++ [.dat true 1 (u8s s)]) else none
    | _ => none
  | some .string, _ => match P.underlying src with
    | some (.slice e) => match P.underlying e with
      | some (.int .u8) => match elems H x with
        | some es => (ofU8s es).map fun s => (.str s, H)
        | none => none
      | _ => none
    | _ => none
  | _, _ => none

def zeroOk (z : TypeInfo) : Bool :=
  match z.zero with
  | some v => v.cells.size == z.size
  | none => false

/-- What a slice type's elements are. -/
def elemT (P : Program) (t : TypeId) : Option TypeInfo :=
  match P.underlying t with
  | some (.slice e) => match P.info? e with
    | some z => if zeroOk z then some z else none
    | none => none
  | _ => none

def sliceV (P : Program) (t : TypeId) (x : V) (lo hi : Option V) (H : Heap) : Option V :=
  match loIdx lo with
  | none => none
  | some l =>
    match x with
    | .str s => match hiIdx hi s.length with
      | some h => if isStrT P t = true ∧ l ≤ h ∧ h ≤ s.length then some (.str ((s.take h).drop l)) else none
      | none => none
    | .sl es => match hiIdx hi es.length with
      | some h => match elemT P t with
        | some z => if l ≤ h ∧ h ≤ es.length ∧ (l = 0 ∨ l = h ∨ (es[l]?).map (fun e => e.cells.length) = some z.size) then some (.sl ((es.take h).drop l)) else none
        | none => none
      | none => none
    | .nils => match hiIdx hi 0 with
      | some h => match elemT P t with
        | some _ => if l = 0 ∧ h = 0 then some .nils else none
        | none => none
      | none => none
    | .own b tot off len => match hiIdx hi len with
      | some h => match elemT P t, H[b]? with
        | some z, some (.dat _ sz es) => if l ≤ h ∧ (h ≤ len ∨ (off = 0 ∧ h ≤ tot)) ∧ es.length = tot ∧ (l = 0 ∨ l = h ∨ sz = z.size) then some (.own b tot (off + l) (h - l)) else none
        | _, _ => none
      | none => none
    | .ptr b tot i off => match P.underlying t with
      | some (.array n e) => match hiIdx hi n, P.info? e with
        | some h, some z => if l ≤ h ∧ h ≤ n ∧ z.size = 1 ∧ live H b tot = true then some (.view b tot i (off + l) (h - l)) else none
        | _, _ => none
      | _ => none
    | _ => none

/-- A slice expression with three bounds: what it comes to is not followed. -/
def slice3V (P : Program) (t : TypeId) (x : V) (lo hi : Option V) (mx : V) (H : Heap) : Option V :=
  match loIdx lo, hi, idx? mx, elemT P t with
  | some l, some hv, some m, some _ => match idx? hv, x with
    | some h, .own b tot off len => if l ≤ h ∧ h ≤ m ∧ m ≤ len ∧ live H b tot = true then some .undef else none
    | some h, .nils => if l ≤ h ∧ h ≤ m ∧ m ≤ 0 then some .undef else none
    | _, _ => none
  | _, _, _, _ => none

def fieldOf (P : Program) (t : TypeId) (f : Nat) : Option Field :=
  match P.underlying t with
  | some (.struct fs) => fs[f]?
  | _ => none

def fieldAddrV (P : Program) (t : TypeId) (x : V) (f : Nat) (H : Heap) : Option V :=
  match fieldOf P t f with
  | none => none
  | some fd =>
    if ((P.info? fd.type).map (·.size)).getD 0 = 0 then none else
    match x with
    | .ptr b tot i off => if live H b tot then some (.ptr b tot i (off + fd.offset)) else none
    | .rop e => (sub P fd.type e fd.offset).map .rop
    | _ => none

def indexAddrV (P : Program) (t : TypeId) (x ix : V) (H : Heap) : Option V :=
  match idx? ix with
  | none => none
  | some i =>
    match P.underlying t, x with
    | some (.array n e), .ptr b tot j off => if i < n ∧ live H b tot = true then (P.info? e).map fun z => .ptr b tot j (off + i * z.size) else none
    | some (.array n e), .rop v => match P.info? e with
        | some z => if i < n ∧ z.size ≠ 0 then (sub P e v (i * z.size)).map .rop else none
        | none => none
    | some (.slice u), .sl es => match es[i]?, P.info? u with
      | some e, some z => if e.cells.length = z.size ∧ z.size ≠ 0 then some (.rop e) else none
      | _, _ => none
    | some (.slice u), .own b tot off len => match H[b]?, P.info? u with
      | some (.dat _ sz es), some z => if i < len ∧ es.length = tot ∧ sz = z.size then some (.ptr b tot (off + i) 0) else none
      | some (.arr _ sz es), some z => if i < len ∧ es.length = tot ∧ sz = z.size then some (.ptr b tot (off + i) 0) else none
      | _, _ => none
    | some (.slice u), .view b tot j off len => match P.info? u with
      | some z => if i < len ∧ z.size = 1 ∧ live H b tot = true then some (.ptr b tot j (off + i)) else none
      | none => none
    | _, _ => none

def indexV (P : Program) (t : TypeId) (x ix : V) : Option V :=
  match idx? ix with
  | none => none
  | some i =>
    match P.underlying t, x with
    | some .string, .str s => (s[i]?).map fun b => .int .u8 b.toNat
    | some (.array n e), .agg cs => if i < n then match P.info? e with
        | some z => sub P e (.agg cs) (i * z.size)
        | none => none
      else none
    | _, _ => none

/-- Elements of a slice, read as an array. -/
def spanV (P : Program) (t : TypeId) (es : List V) (i off : Nat) : Option V :=
  match P.underlying t with
  | some (.array m _) =>
    if off = 0 ∧ (P.info? t).map (·.size) = some (((es.drop i).take m).flatMap V.cells).length then some (.agg (((es.drop i).take m).flatMap V.cells)) else none
  | _ => none

def loadV (P : Program) (t : TypeId) (x : V) (H : Heap) : Option V :=
  match x with
  | .ptr b tot i off => match H[b]? with
    | some (.box e) => if tot = 1 ∧ i = 0 then sub P t e off else none
    | some (.dat _ sz es) => if es.length = tot then match es[i]? with
        | some e => match sub P t e off with
          | some v => some v
          | none => spanV P t es i off
        | none => none
      else none
    | some (.arr _ sz es) => if es.length = tot then match es[i]? with
        | some e => sub P t e off
        | none => none
      else none
    | _ => none
  | .rop e => sub P t e 0
  | _ => none

def storeV (P : Program) (t : TypeId) (a x : V) (H : Heap) : Option Heap :=
  if (P.info? t).map (·.size) = some x.cells.length ∧ x.storable = true then
    match a with
    | .ptr b tot i off => match H[b]? with
      | some (.box e) => if tot = 1 ∧ i = 0 then (setSub e off x).map fun e' => H.set b (.box e') else none
      | some (.dat true sz es) => if es.length = tot then match es[i]?, sealV H x with
          | some e, some (x', bs) => if bs.contains b then none else (setSub e off x').map fun e' => (freeze H bs).set b (.dat true sz (es.set i e'))
          | _, _ => none
        else none
      | some (.arr ta sz es) => if es.length = tot then match es[i]? with
          | some e => (setSub e off x).map fun e' => H.set b (.arr ta sz (es.set i e'))
          | none => none
        else none
      | _ => none
    | _ => none
  else none

/-- Cells an element of a slice of this type. -/
def slotSize (P : Program) (t : TypeId) : Nat :=
  match elemT P t with
  | some z => z.size
  | none => 0

def slotSizes (P : Program) (t : TypeId) : List Nat :=
  match P.cellTypes P.depth t with
  | some ts => ts.map (slotSize P)
  | none => []

def lenT (P : Program) (t : TypeId) (x : V) (H : Heap) : Option V :=
  match P.underlying t with
  | some .string => match x with
    | .str s => some (.int .i64 s.length)
    | _ => none
  | some (.slice _) => match x with
    | .sl _ | .nils | .own .. | .view .. => (lenV H x).map fun n => .int .i64 n
    | _ => none
  | some (.map ..) => match x with
    | .map _ | .mapr .. | .nilm => (lenV H x).map fun n => .int .i64 n
    | _ => none
  | some (.array n _) => some (.int .i64 n)
  | _ => none

def sliceElem (P : Program) (t : TypeId) : Option TypeId :=
  match P.underlying t with
  | some (.slice e) => some e
  | _ => none

/-- The elements of a slice of any values. -/
def srcA (H : Heap) : V → Option (List V)
  | .own b tot off len => match H[b]? with
    | some (.arr _ _ es) => if es.length = tot ∧ off = 0 ∧ len = tot then some es else none
    | _ => none
  | _ => none

/-- append to a slice of any values. -/
def appendA (P : Program) (t : TypeId) (z : TypeInfo) (s : V) (new : List V) (H : Heap) : Option (V × Heap) :=
  match s with
  | .own b tot off len => match H[b]? with
    | some (.arr ta sz es) =>
      if es.length = tot ∧ off = 0 ∧ len = tot ∧ sz = z.size ∧ (ta = none ∨ (ta = sliceElem P t ∧ sz = 1)) ∧ (new.all fun e => e.cells.length = z.size) = true ∧ (tot + new.length) * z.bytes ≤ room ∧ tot + new.length ≤ room then
        some (.own b (tot + new.length) 0 (tot + new.length), H.set b (.arr ta sz (es ++ new))) else none
    | _ => none
  | _ => none

/-- append(s, x...): elements 'new' behind those of s. -/
def appendV (P : Program) (t : TypeId) (s x : V) (H : Heap) : Option (V × Heap) :=
  match elemT P t with
  | none => none
  | some z =>
    match srcV H x with
    | none => match srcA H x with
      | some new => appendA P t z s new H
      | none => none
    | some new =>
      if new.all fun e => e.cells.length = z.size then
        match s with
        | .nils => if new.length * z.bytes ≤ room ∧ new.length ≤ room ∧ 0 < z.size then if new.isEmpty then some (.nils, H)
            else some (.own H.length new.length 0 new.length, H ++ [.dat true z.size new]) else none
        | .own b tot off len => match H[b]? with
          | some (.dat true sz es) =>
            if es.length = tot ∧ off = 0 ∧ sz = z.size then
              if len = tot then
                if (tot + new.length) * z.bytes ≤ room ∧ tot + new.length ≤ room then
                  some (.own b (tot + new.length) 0 (tot + new.length), H.set b (.dat true sz (es ++ new))) else none
              else if len + new.length ≤ tot then
                some (.own b tot 0 (len + new.length), H.set b (.dat true sz (es.take len ++ new ++ es.drop (len + new.length)))) else none
            else none
          | some (.arr ..) => appendA P t z s new H
          | _ => none
        | _ => none
      else none

def zeroV (P : Program) (t : TypeId) : Option V :=
  match P.info? t with
  | some z => match z.zero with
    | some v => some (ofVal v)
    | none => none
  | none => none

def makeSliceV (P : Program) (t : TypeId) (l c : V) (H : Heap) : Option (V × Heap) :=
  match elemT P t, idx? l, idx? c with
  | some z, some n, some m =>
    if n ≤ m ∧ m * z.bytes ≤ room ∧ m ≤ room ∧ 0 < z.size then match z.zero with
      | some v => if (ofVal v).storable = true ∧ (ofVal v).cells.length = z.size then some (.own H.length n 0 n, H ++ [.dat true z.size (List.replicate n (ofVal v))]) else none
      | none => none
    else none
  | _, _, _ => none

def copyV (P : Program) (t : TypeId) (d s : V) (H : Heap) : Option (V × Heap) :=
  match elemT P t, srcV H s with
  | some z, some new =>
    if new.all fun e => e.cells.length = z.size then
      match d with
      | .own b tot off len => match H[b]? with
        | some (.dat true sz es) => if es.length = tot ∧ off + len ≤ tot ∧ sz = z.size then
            let n := min new.length len
            some (.int .i64 n, H.set b (.dat true sz (es.take off ++ new.take n ++ es.drop (off + n)))) else none
        | _ => none
      | .view b tot i off len => match H[b]? with
        | some (.box (.agg cs)) => if tot = 1 ∧ i = 0 ∧ off + len ≤ cs.length ∧ z.size = 1 then
            let n := min new.length len
            some (.int .i64 n, H.set b (.box (.agg (cs.take off ++ (new.take n).flatMap V.cells ++ cs.drop (off + n))))) else none
        | _ => none
      | .nils => some (.int .i64 0, H)
      | _ => none
    else none
  | _, _ => none

/-- clear of a slice. -/
def clearV (P : Program) (t : TypeId) (d : V) (H : Heap) : Option (V × Heap) :=
  match elemT P t with
  | some z => match z.zero with
    | some v => if (ofVal v).storable = true ∧ (ofVal v).cells.length = z.size then
        match d with
        | .own b tot off len => match H[b]? with
          | some (.dat true sz es) => if es.length = tot ∧ off + len ≤ tot ∧ sz = z.size then
              some (.tuple [], H.set b (.dat true sz (es.take off ++ List.replicate len (ofVal v) ++ es.drop (off + len)))) else none
          | _ => none
        | .nils => some (.tuple [], H)
        | _ => none
      else none
    | none => none
  | none => none

/-- A key that is compared at once. -/
def keyOk (P : Program) (t : TypeId) : V → Bool
  | .int _ _ => isIntT P t
  | .str _ => isStrT P t
  | .bool _ => isBoolT P t
  | _ => false

/-- A map's keys and what they lead to. -/
def mapOf (H : Heap) : V → Option (List V × List V)
  | .nilm => some ([], [])
  | .mapr ks vs => some (ks, vs)
  | .map b => match H[b]? with
    | some (.map _ ks vs) => some (ks, vs)
    | _ => none
  | _ => none

def lookupV (P : Program) (t : TypeId) (m k : V) (ok : Bool) (H : Heap) : Option V :=
  match P.underlying t with
  | some (.map kt e) =>
    if keyOk P kt k = false then none else
    match mapOf H m with
    | none => none
    | some (ks, vs) => match findK k ks vs with
      | none => none
      | some (some v) => some (if ok then .tuple [v, .bool true] else v)
      | some none => (zeroV P e).map fun z => if ok then .tuple [z, .bool false] else z
  | _ => none

def mapUpdateV (P : Program) (t : TypeId) (m k x : V) (H : Heap) : Option Heap :=
  match P.underlying t with
  | some (.map kt _) => if keyOk P kt k = false then none else
    (match m with
    | .map b => match H[b]?, sealV H x with
      | some (.map true ks vs), some (x', bs) => if bs.contains b then none else match findK k ks vs with
        | none => none
        | some (some _) => some ((freeze H bs).set b (.map true ks (setK k x' ks vs)))
        | some none => some ((freeze H bs).set b (.map true (ks ++ [k]) (vs ++ [x'])))
      | _, _ => none
    | _ => none)
  | _ => none

def placesOf (P : Program) (fs : List Field) : Option (List (Nat × Nat)) := fs.mapM fun f => (P.info? f.type).map fun i => (f.offset, i.size)

def buildV (P : Program) (t : TypeId) (parts : List (Nat × V)) : Option V :=
  match zeroV P t with
  | some (.agg zs) =>
    match P.underlying t with
    | some (.struct fs) => match placesOf P fs.toList with
      | some pl => (fillV (fun i => pl[i]?) zs parts).map .agg
      | none => none
    | some (.array _ e) => match P.info? e with
      | some y => (fillV (fun i => some (i * y.size, y.size)) zs parts).map .agg
      | none => none
    | _ => none
  | _ => none

def setElems (es : List V) : List (Nat × V) → Option (List V)
  | [] => some es
  | (i, v) :: r => match es[i]? with
    | some e => if e.cells.length = v.cells.length ∧ e.isAgg = v.isAgg ∧ v.storable = true then setElems (es.set i v) r else none
    | none => none

def buildSliceV (P : Program) (t : TypeId) (n : Nat) (parts : List (Nat × V)) (H : Heap) : Option (V × Heap) :=
  match elemT P t with
  | none => none
  | some z => match z.zero with
    | none => none
    | some v => if n * z.size ≤ 16777216 ∧ 0 < z.size ∧ (ofVal v).storable = true ∧ (ofVal v).cells.length = z.size then
        match sealL H (parts.map (·.2)) with
        | some (xs, bs) => match setElems (List.replicate n (ofVal v)) ((parts.map (·.1)).zip xs) with
          | some es => some (.own H.length n 0 n, freeze H bs ++ [.dat true z.size es])
          | none => none
        | none => match setElems (List.replicate n (ofVal v)) parts with
          | some es => some (.own H.length n 0 n, H ++ [.arr none z.size es])
          | none => none
      else none

/-- A slice as an array's address. -/
def arrAtV (P : Program) (t : TypeId) (x : V) (H : Heap) : Option V :=
  match P.underlying t with
  | some (.array n _) => match x with
    | .sl es => if n ≤ es.length ∧ ((es.take n).flatMap V.cells) ≠ [] then some (.rop (.agg ((es.take n).flatMap V.cells))) else none
    | .own b tot off len => if n ≤ len ∧ 0 < n ∧ live H b tot = true then some (.ptr b tot off 0) else none
    | _ => none
  | _ => none

/-- Is this a strings.Builder: a pointer to the like, and bytes? -/
def bldT (P : Program) (t : TypeId) : Option TypeId :=
  match P.cellTypes P.depth t with
  | some [p, s] => match P.underlying p, P.underlying s with
    | some (.pointer t'), some (.slice e) => match P.underlying e with
      | some (.int .u8) => if t' = t then some e else none
      | _ => none
    | _, _ => none
  | _ => none
def bldE (P : Program) (t : TypeId) (cs : List V) : Option TypeId :=
  match cs with
  | [.nilx 0, .nils] => bldT P t
  | _ => none

abbrev CallV := V → List V → Heap → Option (V × Heap)

def builtinV (P : Program) (b : Builtin) (ts : List TypeId) (xs : List V) (H : Heap) : Option (V × Heap) :=
  match b, xs with
  | .len, [x] => match ts with
    | [t] => (lenT P t x H).map fun v => (v, H)
    | _ => none
  | .append, [s, x] => match ts with
    | [t, u] => if isIntT P u = true ∨ (P.underlying u).isNone = true then none else appendV P t s x H
    | _ => none
  | .copy, [d, s] => match ts with
    | [t, _] => copyV P t d s H
    | _ => none
  | .clear, [d] => match ts with
    | [t] => clearV P t d H
    | _ => none
  | .min, [.int k a, .int k' b] => if k = k' then some (.int k (min a b), H) else none
  | .max, [.int k a, .int k' b] => if k = k' then some (.int k (max a b), H) else none
  | _, _ => none

def evOp (P : Program) (call : CallV) (env : Env) (H : Heap) (o : Oper) : Option (V × Heap) :=
  let e := evO env
  let pure1 (v : Option V) : Option (V × Heap) := v.map fun v => (v, H)
  match o.op with
  | .move x => some (e x, H)
  | .assign x => some (ownify (slotSize P o.type) (e x) H)
  | .pick c a b => match e c with
    | .bool t => some (if t then e a else e b, H)
    | _ => none
  | .alloc t => match zeroV P t with
    | some z => match z with
      | .agg cs => if cs.isEmpty then none else match bldE P t cs with
        | some e => some (.ptr (H.length + 1) 1 0 0, H ++ [.arr (some e) 1 [], .arr (some t) 2 [.agg [.nilx 0, .own H.length 0 0 0]]])
        | none => some (.ptr (ownifyL (slotSizes P t) cs H).2.length 1 0 0, (ownifyL (slotSizes P t) cs H).2 ++ [.box (.agg (ownifyL (slotSizes P t) cs H).1)])
      | z => if z.storable then some (.ptr (ownify (slotSize P t) z H).2.length 1 0 0, (ownify (slotSize P t) z H).2 ++ [.box (ownify (slotSize P t) z H).1]) else none
    | none => none
  | .box t x => if (P.info? t).map (·.size) = some (e x).cells.length ∧ (e x).storable = true ∧ (e x).cells ≠ [] then some (.ptr H.length 1 0 0, H ++ [.box (e x)]) else none
  | .build t ps => pure1 (buildV P t (ps.toList.map fun (i, x) => (i, e x)))
  | .buildSlice t n ps => buildSliceV P t n (ps.toList.map fun (i, x) => (i, e x)) H
  | .load t a => pure1 (loadV P t (e a) H)
  | .store t a x => (storeV P t (e a) (e x) H).map fun H' => (.tuple [], H')
  | .nilCheck x => match e x with
    | .ptr b t i o => if live H b t then some (.ptr b t i o, H) else none
    | .rop v => some (.rop v, H)
    | .fn f cs => some (.fn f cs, H)
    | .meth f cs => some (.meth f cs, H)
    | _ => none
  | .binOp op t x y _ => pure1 (binV P op t (e x) (e y))
  | .unOp op _ x => pure1 (unV op (e x))
  | .convert s d x => convV P s d (e x) H
  | .sliceToArrayPointer t x => pure1 (arrAtV P t (e x) H)
  | .makeFunc (.func f) first caps => if first.isEmpty then some (.fn f (caps.toList.map e), H) else if caps.isEmpty then some (.meth f (first.toList.map e), H) else none
  | .makeMap _ none => some (.map H.length, H ++ [.map true [] []])
  | .makeSlice t l c => makeSliceV P t (e l) (e c) H
  | .slice t x lo hi none => pure1 (sliceV P t (e x) (lo.map e) (hi.map e) H)
  | .slice t x lo hi (some mx) => pure1 (slice3V P t (e x) (lo.map e) (hi.map e) (e mx) H)
  | .fieldAddr t x f => pure1 (fieldAddrV P t (e x) f H)
  | .field t x f => match fieldOf P t f, e x with
    | some fd, .agg cs => pure1 (sub P fd.type (.agg cs) fd.offset)
    | _, _ => none
  | .indexAddr t x i => pure1 (indexAddrV P t (e x) (e i) H)
  | .index t x i => pure1 (indexV P t (e x) (e i))
  | .lookup t m k ok => pure1 (lookupV P t (e m) (e k) ok H)
  | .mapUpdate t m k x => (mapUpdateV P t (e m) (e k) (e x) H).map fun H' => (.tuple [], H')
  | .extract x i => match e x with
    | .tuple vs => pure1 vs[i]?
    | _ => none
  | .call { callee := .builtin b, args, argTypes } => builtinV P b argTypes.toList (args.toList.map e) H
  | .call { callee := .value f, args, .. } => call (e f) (args.toList.map e) H
  | _ => none

inductive Wanted where
  | yes | no | stuck

def wantedV (ops : Array Oper) (env : Env) (o : Oper) : Wanted :=
  match o.guard with
  | none => .yes
  | some (j, want) => match (ops[j]?).bind (·.dst) with
    | none => .no
    | some d => match env.get d with
      | .bool b => if b = want then .yes else .no
      | .tuple [] => .no
      | _ => .stuck

def evOps (P : Program) (call : Op → CallV) (ops : Array Oper) : List Oper → Env → Heap → Option (Env × Heap)
  | [], env, H => some (env, H)
  | o :: r, env, H => match wantedV ops env o with
    | .yes => match evOp P (call o.op) env H o with
      | some (v, H') => evOps P call ops r (env.put o.dst v) H'
      | none => none
    | .no => evOps P call ops r (env.put o.dst (.tuple [])) H
    | .stuck => none

inductive X where
  | normal | exit (id : Nat) | ret

/-- A function's text. -/
structure Body where
  results : List ResultVar
  ntmps : Nat
  code : Code

structure Ctx where
  P : Program
  ext : FuncId → Option (List V → Option (V × Heap))
  extE : FuncId → Option (List V → Heap → Option (V × Heap))
  keep : FuncId → Nat → Option (List Nat)
  body : FuncId → Option Body
  loud : FuncId → Bool := fun _ => false
  direct : FuncId → Bool := fun _ => false
  free : FuncId → Nat → List Nat := fun _ _ => []

mutual
/-- Are two values the same? -/
def beqV : V → V → Bool
  | .undef, .undef => true
  | .bool a, .bool b => a == b
  | .int k n, .int k' n' => decide (k = k') && decide (n = n')
  | .str a, .str b => decide (a = b)
  | .nils, .nils => true
  | .nilm, .nilm => true
  | .nilx a, .nilx b => decide (a = b)
  | .agg a, .agg b => beqL a b
  | .tuple a, .tuple b => beqL a b
  | .sl a, .sl b => beqL a b
  | .own a b c d, .own a' b' c' d' => decide (a = a') && decide (b = b') && decide (c = c') && decide (d = d')
  | .ptr a b c d, .ptr a' b' c' d' => decide (a = a') && decide (b = b') && decide (c = c') && decide (d = d')
  | .rop a, .rop b => beqV a b
  | .map a, .map b => decide (a = b)
  | _, _ => false
def beqL : List V → List V → Bool
  | [], [] => true
  | a :: x, b :: y => beqV a b && beqL x y
  | _, _ => false
end

mutual
theorem beqV_eq : ∀ (a b : V), beqV a b = true → a = b
  | .undef, b, h => by cases b <;> simp [beqV] at h ⊢
  | .bool x, b, h => by cases b <;> simp [beqV] at h ⊢; exact h
  | .int k n, b, h => by cases b <;> simp [beqV] at h ⊢; exact h
  | .str s, b, h => by cases b <;> simp [beqV] at h ⊢; exact h
  | .nils, b, h => by cases b <;> simp [beqV] at h ⊢
  | .nilm, b, h => by cases b <;> simp [beqV] at h ⊢
  | .nilx k, b, h => by cases b <;> simp [beqV] at h ⊢; exact h
  | .agg x, b, h => by cases b <;> simp only [beqV, Bool.false_eq_true] at h; exact congrArg V.agg (beqL_eq _ _ h)
  | .tuple x, b, h => by cases b <;> simp only [beqV, Bool.false_eq_true] at h; exact congrArg V.tuple (beqL_eq _ _ h)
  | .sl x, b, h => by cases b <;> simp only [beqV, Bool.false_eq_true] at h; exact congrArg V.sl (beqL_eq _ _ h)
  | .own .., b, h => by cases b <;> simp [beqV, and_assoc] at h ⊢; exact h
  | .ptr .., b, h => by cases b <;> simp [beqV, and_assoc] at h ⊢; exact h
  | .rop x, b, h => by cases b <;> simp only [beqV, Bool.false_eq_true] at h; exact congrArg V.rop (beqV_eq _ _ h)
  | .map x, b, h => by cases b <;> simp [beqV] at h ⊢; exact h
  | .mapr .., b, h => by cases b <;> simp [beqV] at h
  | .fn .., b, h => by cases b <;> simp [beqV] at h
  | .meth .., b, h => by cases b <;> simp [beqV] at h
  | .view .., b, h => by cases b <;> simp [beqV] at h
theorem beqL_eq : ∀ (a b : List V), beqL a b = true → a = b
  | [], [], _ => rfl
  | [], _ :: _, h => by simp [beqL] at h
  | _ :: _, [], h => by simp [beqL] at h
  | a :: x, b :: y, h => by
    rw [beqL, Bool.and_eq_true] at h
    rw [beqV_eq a b h.1, beqL_eq x y h.2]
end

/-- An operation that reads and nothing else. -/
def readOp : Op → Bool
  | .load .. | .nilCheck _ | .fieldAddr .. | .indexAddr .. => true
  | _ => false
/-- A read that may be done in another order than the writes beside it. -/
def isFree (fl : List Nat) (o : Oper) : Bool := readOp o.op && (match o.dst with | some d => fl.contains d | none => false)

/-- The states of a region, one after the other. -/
def states (P : Program) (call : Op → CallV) (ops : Array Oper) : List Oper → Env → Heap → List (Env × Heap)
  | [], env, H => [(env, H)]
  | o :: r, env, H => (env, H) :: match wantedV ops env o with
    | .yes => match evOp P (call o.op) env H o with
      | some (v, H') => states P call ops r (env.put o.dst v) H'
      | none => []
    | .no => states P call ops r (env.put o.dst (.tuple [])) H
    | .stuck => []
def sameR : Option (V × Heap) → Option (V × Heap) → Bool
  | some a, some b => beqV a.1 b.1
  | _, _ => false
/-- Do the free reads read the same at every time? -/
def freeOk (P : Program) (call : Op → CallV) (fl : List Nat) (ops : Array Oper) (S : List (Env × Heap)) : Bool :=
  (ops.toList.zip S).all fun x => !isFree fl x.1 || (match wantedV ops x.2.1 x.1 with | .yes => false | _ => true) || S.all fun st => sameR (evOp P (call x.1.op) x.2.1 st.2 x.1) (evOp P (call x.1.op) x.2.1 x.2.2 x.1)
def freeAll (P : Program) (call : Op → CallV) (fl : List Nat) (ops : Array Oper) (env : Env) (H : Heap) : Bool := match fl with
  | [] => true
  | fl => freeOk P call fl ops (states P call ops ops.toList env H)

/-- A call that may write though its order is free. -/
def loudOp (ld : FuncId → Bool) : Op → Bool
  | .call ⟨.value (.func f), _, _⟩ => ld f
  | _ => false

/-- A call that makes memory no shorter. -/
def lenF (c : CallV) : CallV := fun x xs H => match c x xs H with
  | some (r, H') => if H.length ≤ H'.length then some (r, H') else none
  | none => none

def pickC (ld : FuncId → Bool) (draw : Bool) (c : Bool → CallV) (o : Op) : CallV := if draw && loudOp ld o then lenF (c false) else c draw

/-- What an operation does to memory: 0 nothing, 1 it reads or makes, 2 it writes. -/
def cls (P : Program) (o : Oper) : Nat := match o.op with
  | .move _ | .pick .. | .binOp .. | .unOp .. | .extract .. | .field .. | .index .. | .build .. | .makeFunc .. => 0
  | .convert _ d _ => if isIntT P d then 0 else 1
  | .store .. | .mapUpdate .. => 2
  | .call { callee := .builtin .append, .. } | .call { callee := .builtin .copy, .. } | .call { callee := .builtin .clear, .. } => 2
  | .call { callee := .builtin .min, .. } | .call { callee := .builtin .max, .. } => 0
  | _ => 1

def clsL (P : Program) (ld : FuncId → Bool) (o : Oper) : Nat := if loudOp ld o.op then 2 else cls P o

def clsF (P : Program) (ld : FuncId → Bool) (fl : List Nat) (o : Oper) : Nat := if isFree fl o then 0 else clsL P ld o

def union (a b : List Nat) : List Nat := a.filter (fun i => !b.contains i) ++ b

def joinA (acc : List (List Nat)) : List Nat → List Nat
  | [] => []
  | i :: r => union (union [i] ((acc[i]?).getD [])) (joinA acc r)

def edges (o : Oper) : List Nat := (o.after.toList.filter (Region.binds .any ·)).map (·.on)

/-- Behind which operations does each one come, whatever the order? -/
def ancs : List Oper → List (List Nat) → List (List Nat)
  | [], acc => acc
  | o :: r, acc => ancs r (acc ++ [joinA acc (edges o)])

/-- May two operations not change places? -/
def confl (kl : Oper → Nat) (ops : Array Oper) (x y : Oper) : Bool :=
  (match x.dst with | some d => (y.looksAt ops).contains d | none => false) ||
  (match y.dst with | some d => (x.looksAt ops).contains d | none => false) ||
  (kl x == 2 && kl y != 0) || (kl y == 2 && kl x != 0)

/-- Is the outcome of a region the same in every order? -/
def dOk (kl : Oper → Nat) (ops : Array Oper) : Bool :=
  (ops.toList.zipIdx.zip (ancs ops.toList [])).all fun ((y, j), an) =>
    (edges y).all (· < j) && (ops.toList.zipIdx.all fun (x, i) => !decide (i < j) || ((x.dst.isNone || x.dst != y.dst) && (!confl kl ops x y || an.contains i)))

def dstsOk (n : Nat) (ops : Array Oper) : Bool := ops.all fun o => match o.dst with | some d => decide (d < n) | none => true

def codeOk (P : Program) (ld : FuncId → Bool) (fr : Nat → List Nat) (n : Nat) : Code → Bool
  | .region id ops draw => dstsOk n ops && (!draw || dOk (clsF P ld (fr id)) ops)
  | .seq a b => codeOk P ld fr n a && codeOk P ld fr n b
  | .cond _ a b => codeOk P ld fr n a && codeOk P ld fr n b
  | .block _ b => codeOk P ld fr n b
  | .loop b => codeOk P ld fr n b
  | _ => true

def loopKey : Code → Nat
  | .region id _ _ => id
  | .seq a _ => loopKey a
  | .block _ b => loopKey b
  | .loop b => loopKey b
  | .scope b => loopKey b
  | _ => 0

def resultsV (P : Program) (env : Env) (H : Heap) : List ResultVar → Option (List V)
  | [] => some []
  | .tmp t :: r => (resultsV P env H r).map (env.get t :: ·)
  | .cell a t :: r => match loadV P t (env.get a) H, resultsV P env H r with
    | some v, some vs => some (v :: vs)
    | _, _ => none

def resV : List V → V
  | [v] => v
  | vs => .tuple vs

def argEnv : List V → Nat → Env
  | [], _ => []
  | v :: vs, i => (i, v) :: argEnv vs (i + 1)

/-- A result made fit for the caller: the blocks that it leads to alone. -/
def expo (h0 : Nat) (r : V) (H : Heap) : Option (V × Heap) :=
  let K := above h0 (reach H (H.length * (H.length + 1) + 100) (refsH (H.take h0) ++ refs r) [])
  match pack h0 K H with
  | some H' => some (ren (toK h0 K) r, H')
  | none => none

/-- The arguments sealed, but of a function that works on its caller's memory. -/
def sealD (C : Ctx) (d : Bool) (f : FuncId) (H : Heap) (xs : List V) : Option (List V × List Nat) := if (!d && C.direct f) = true then none else sealL H xs
theorem sealD_some {C : Ctx} {d : Bool} {f : FuncId} {H : Heap} {xs : List V} {r : List V × List Nat} (h : sealD C d f H xs = some r) : sealL H xs = some r := by
  unfold sealD at h
  split at h
  · cases h
  · exact h

def shift (n b : Nat) : Option Nat := some (b + n)

mutual
/-- A function's body over a heap of which the blocks below h0 are the caller's. -/
def evB (C : Ctx) : Nat → FuncId → List V → Heap → Option (V × Heap)
  | 0, _, _, _ => none
  | n + 1, f, args, H => match C.body f with
    | none => none
    | some fn => if args.length ≤ fn.ntmps then match evC C n f H.length fn.code (argEnv args 0) H with
        | some (.normal, env, H') | some (.ret, env, H') => match resultsV C.P env H' fn.results with
          | some vs => expo H.length (resV vs) H'
          | none => none
        | _ => none
      else none
/-- A call; 'd': it must not write. -/
def evF (C : Ctx) : Nat → Bool → V → List V → Heap → Option (V × Heap)
  | 0, _, _, _, _ => none
  | n + 1, d, .fn f cs, args, H =>
    match (if d then none else C.extE f) with
    | some g => g (args ++ cs) H
    | none => match sealD C d f H (args ++ cs) with
      | some (asx, bs) =>
        match (match C.ext f with | some g => g asx | none => evB C n f asx []) with
        | some (r, H') => some (ren (shift H.length) r, (if hasRo r || H'.any hasRoB then freeze H bs else H) ++ H'.map (renB (shift H.length)))
        | none => none
      | none => if d then none else evB C n f (args ++ cs) H
  | n + 1, d, .meth f cs, args, H => evF C n d (.fn f []) (cs ++ args) H
  | _, _, _, _, _ => none
def evC (C : Ctx) : Nat → FuncId → Nat → Code → Env → Heap → Option (X × Env × Heap)
  | 0, _, _, _, _, _ => none
  | n + 1, f, h0, c, env, H => match c with
    | .skip => some (.normal, env, H)
    | .region id ops draw => if freeAll C.P (pickC C.loud draw (evF C n)) (C.free f id) ops env H then (evOps C.P (pickC C.loud draw (evF C n)) ops ops.toList env H).map fun (env', H') => (.normal, env', H') else none
    | .seq a b => match evC C n f h0 a env H with
      | some (.normal, env', H') => evC C n f h0 b env' H'
      | r => r
    | .cond c a b => match evO env c with
      | .bool t => evC C n f h0 (if t then a else b) env H
      | _ => none
    | .block id b => match evC C n f h0 b env H with
      | some (.exit j, env', H') => some (if j = id then .normal else .exit j, env', H')
      | r => r
    | .loop b => match (match C.keep f (loopKey b) with | some ks => atHead h0 ks env H | none => some (env, H)) with
      | some (env, H) => match evC C n f h0 b env H with
        | some (.normal, env', H') => evC C n f h0 (.loop b) env' H'
        | r => r
      | none => none
    | .exit id => some (.exit id, env, H)
    | .ret => some (.ret, env, H)
    | _ => none
end

end Go.Abs

namespace Go.Abs
open Go.RowKit

inductive Loc where
  | unborn | nil
  | at (c s n : Nat)

abbrev Place := Nat → Loc

mutual
/-- Does a value refer to no block of the call's own? -/
def pureV : V → Bool
  | .own .. | .ptr .. | .map _ | .view .. => false
  | .agg cs | .tuple cs | .fn _ cs | .meth _ cs => pureL cs
  | .rop e => pureV e
  | _ => true
def pureL : List V → Bool
  | [] => true
  | c :: cs => pureV c && pureL cs
end

theorem pureL_at {cs : List V} (h : pureL cs = true) : ∀ (i : Nat) (c : V), cs[i]? = some c → pureV c = true := by
  induction cs with
  | nil => intro i c hc; simp at hc
  | cons d r ih =>
    simp only [pureL, Bool.and_eq_true] at h
    intro i c hc
    cases i with
    | zero => simp at hc; rw [← hc]; exact h.1
    | succ i => exact ih h.2 i c (by simpa using hc)

theorem pureL_of {cs : List V} (h : ∀ (i : Nat) (c : V), cs[i]? = some c → pureV c = true) : pureL cs = true := by
  induction cs with
  | nil => rfl
  | cons d r ih =>
    simp only [pureL, Bool.and_eq_true]
    exact ⟨h 0 d rfl, ih fun i c hc => h (i + 1) c (by simpa using hc)⟩

theorem single_cell {e : V} {j : Nat} {c : V} (h : ∀ cs, e ≠ .agg cs) (hc : e.cells[j]? = some c) : c = e := by
  have he : e.cells = [e] := by cases e <;> first | rfl | exact absurd rfl (h _)
  rw [he] at hc
  cases j with
  | zero => simpa using hc.symm
  | succ j => simp at hc

theorem pure_cells {e : V} (h : pureV e = true) (j : Nat) (c : V) (hc : e.cells[j]? = some c) : pureV c = true := by
  by_cases ha : ∃ cs, e = .agg cs
  · obtain ⟨cs, rfl⟩ := ha
    have h' : pureL cs = true := by simpa only [pureV] using h
    exact pureL_at h' j c hc
  · rw [single_cell (fun cs he => ha ⟨cs, he⟩) hc]; exact h

/-- How a slice over an own block reads. -/
def Geo (w : World) (c s tot off len : Nat) (v : Value) : Prop :=
  ∃ a cap t z, v = .slice (some a) len cap ∧ w.shape? c = some (t, z) ∧ len ≤ cap ∧ (0 < len ∨ off = 0 → a = ⟨c, off * s, none⟩) ∧ (off = 0 → tot ≤ cap ∧ cap * s ≤ z ∧ cap ≤ maxLen)

/-- What is no pointer, no function, no value of an interface. -/
def nilVal : Nat → Option Value
  | 0 => some (.pointer none)
  | 1 => some .nilFunc
  | 2 => some .nilIface
  | _ => none
theorem nilVal_one {k : Nat} {v : Value} (h : nilVal k = some v) : v.oneCell' = true ∧ v.cells = #[v] := by
  unfold nilVal at h
  split at h <;> first | (cases h; exact ⟨rfl, rfl⟩) | cases h

inductive VRel (φ : Place) (W : Nat → Prop) (w : World) : V → Value → Prop where
  | undef (v : Value) : VRel φ W w .undef v
  | bool (b : Bool) : VRel φ W w (.bool b) (.bool b)
  | int (k : IntKind) (n : Int) : VRel φ W w (.int k n) (.int k n)
  | str (s : List UInt8) : VRel φ W w (.str s) (.string ⟨s.toArray⟩)
  | nils : VRel φ W w .nils (.slice none 0 0)
  | nilm : VRel φ W w .nilm (.map none)
  | nilx (k : Nat) (v : Value) (h : nilVal k = some v) : VRel φ W w (.nilx k) v
  | agg (cs : List V) (vs : Array Value) (hl : cs.length = vs.size) (h1 : ∀ v ∈ vs.toList, v.oneCell' = true) (h : ∀ (i : Nat) (c : V) (v : Value), cs[i]? = some c → vs[i]? = some v → VRel φ W w c v) : VRel φ W w (.agg cs) (.agg vs)
  | tuple (cs : List V) (vs : Array Value) (hl : cs.length = vs.size) (h : ∀ (i : Nat) (c : V) (v : Value), cs[i]? = some c → vs[i]? = some v → VRel φ W w c v) : VRel φ W w (.tuple cs) (.tuple vs)
  | sl (es : List V) (a : Addr) (cap s : Nat) (vals : Nat → Value) (hcap : es.length ≤ cap) (h0 : 0 < s) (hp : pureL es = true) (hs : ∀ (i : Nat) (e : V), es[i]? = some e → e.cells.length = s)
      (hW : es ≠ [] → ¬ W a.block)
      (hc : ∀ (i j : Nat) (e c : V), es[i]? = some e → e.cells[j]? = some c → w.cell? (a.add (i * s + j)) = some (vals (i * s + j)) ∧ (vals (i * s + j)).oneCell' = true)
      (hv : ∀ (i j : Nat) (e c : V), es[i]? = some e → e.cells[j]? = some c → VRel φ W w c (vals (i * s + j))) : VRel φ W w (.sl es) (.slice (some a) es.length cap)
  | slnil : VRel φ W w (.sl []) (.slice none 0 0)
  | own (b tot off len : Nat) (v : Value) (hv : v.oneCell' = true) (h0 : off + len ≤ tot) (h1 : φ b ≠ .unborn) (h2 : φ b = .nil → tot = 0 ∧ v = .slice none 0 0)
      (h3 : ∀ (c s n : Nat), φ b = .at c s n → tot ≤ n ∧ (tot = n → Geo w c s tot off len v)) : VRel φ W w (.own b tot off len) v
  | ptr (b tot i off : Nat) (v : Value) (hv : v.oneCell' = true) (h1 : φ b ≠ .unborn) (h2 : φ b ≠ .nil) (h3 : ∀ (c s n : Nat), φ b = .at c s n → tot ≤ n ∧ (tot = n → v = .pointer (some ⟨c, i * s + off, none⟩))) : VRel φ W w (.ptr b tot i off) v
  | rop (e : V) (a : Addr) (vals : Nat → Value) (h0 : e.cells ≠ []) (hW : ¬ W a.block) (hc : ∀ (j : Nat) (c : V), e.cells[j]? = some c → w.cell? (a.add j) = some (vals j) ∧ (vals j).oneCell' = true)
      (hv : ∀ (j : Nat) (c : V), e.cells[j]? = some c → VRel φ W w c (vals j)) : VRel φ W w (.rop e) (.pointer (some a))
  | mapr (ks vs : List V) (r : Nat) (es : Array MapEntry) (clock : Nat) (hW : ¬ W r) (hh : w.heap[r]? = some (.map es clock)) (h1 : ks.length = es.size) (h2 : vs.length = es.size) (hp : pureL ks = true) (hq : pureL vs = true)
      (hk : ∀ (i : Nat) (k : V) (x : MapEntry), ks[i]? = some k → es[i]? = some x → VRel φ W w k x.key) (hv : ∀ (i : Nat) (v : V) (x : MapEntry), vs[i]? = some v → es[i]? = some x → VRel φ W w v x.val) : VRel φ W w (.mapr ks vs) (.map (some r))
  | mapn : VRel φ W w (.mapr [] []) (.map none)
  | map (b : Nat) (v : Value) (hv : v.oneCell' = true) (h1 : φ b ≠ .unborn) (h3 : ∀ (c s n : Nat), φ b = .at c s n → n = 0 → v = .map (some c)) : VRel φ W w (.map b) v
  | fn (f : Nat) (cs : List V) (vs : Array Value) (hl : cs.length = vs.size) (h : ∀ (i : Nat) (c : V) (v : Value), cs[i]? = some c → vs[i]? = some v → VRel φ W w c v) : VRel φ W w (.fn f cs) (.func (.func f) #[] vs)
  | meth (f : Nat) (cs : List V) (vs : Array Value) (hl : cs.length = vs.size) (h : ∀ (i : Nat) (c : V) (v : Value), cs[i]? = some c → vs[i]? = some v → VRel φ W w c v) : VRel φ W w (.meth f cs) (.func (.func f) vs #[])
  | view (b tot i off len : Nat) (v : Value) (hv : v.oneCell' = true) (h1 : φ b ≠ .unborn) (h2 : φ b ≠ .nil) (h3 : ∀ (c s n : Nat), φ b = .at c s n → tot ≤ n ∧ (tot = n → ∃ a cap, v = .slice (some a) len cap ∧ len ≤ cap ∧ (0 < len → a = ⟨c, i * s + off, none⟩))) : VRel φ W w (.view b tot i off len) v

/-- What a block's place may become. -/
def Keeps (l l' : Loc) : Prop :=
  l' ≠ .unborn ∧ (l' = .nil → l = .nil) ∧ ∀ c s n, l' = .at c s n → l = .at c s n ∨ (∃ c0 s0 n0, l = .at c0 s0 n0 ∧ n0 < n) ∨ (l = .nil ∧ 0 < n)

theorem Keeps.refl {l : Loc} (h : l ≠ .unborn) : Keeps l l := ⟨h, id, fun _ _ _ h => .inl h⟩
theorem Keeps.trans {l l' l'' : Loc} (h : Keeps l l') (h' : Keeps l' l'') : Keeps l l'' := by
  refine ⟨h'.1, fun e => h.2.1 (h'.2.1 e), fun c s n e => ?_⟩
  rcases h'.2.2 c s n e with e1 | ⟨c0, s0, n0, e1, hn⟩ | ⟨e1, hn⟩
  · exact h.2.2 c s n e1
  · rcases h.2.2 _ _ _ e1 with e2 | ⟨c1, s1, n1, e2, hn1⟩ | ⟨e2, hn1⟩
    · exact .inr (.inl ⟨_, _, _, e2, hn⟩)
    · exact .inr (.inl ⟨_, _, _, e2, by omega⟩)
    · exact .inr (.inr ⟨e2, by omega⟩)
  · exact .inr (.inr ⟨h.2.1 e1, hn⟩)

/-- From one state to a later one: of the blocks below h0 the places are kept. -/
structure Ext (h0 : Nat) (φ : Place) (W : Nat → Prop) (w : World) (φ' : Place) (W' : Nat → Prop) (w' : World) : Prop where
  keeps : ∀ b, b < h0 → φ b ≠ .unborn → Keeps (φ b) (φ' b)
  small : ∀ c, c < w.heap.size → W' c → W c
  mem : ∀ c, c < w.heap.size → ¬ W c → w'.heap[c]? = w.heap[c]?
  shape : ∀ c x, w.shape? c = some x → w'.shape? c = some x
  size : w.heap.size ≤ w'.heap.size

theorem shape_of_heap {w w' : World} {c : Nat} (h : w'.heap[c]? = w.heap[c]?) : w'.shape? c = w.shape? c := by simp [World.shape?, h]

theorem Ext.refl (h0 : Nat) (φ : Place) (W : Nat → Prop) (w : World) : Ext h0 φ W w φ W w :=
  ⟨fun _ _ h => .refl h, fun _ _ h => h, fun _ _ _ => rfl, fun _ _ h => h, Nat.le_refl _⟩

theorem Ext.trans {h0 : Nat} {φ φ1 φ2 : Place} {W W1 W2 : Nat → Prop} {w w1 w2 : World} (h : Ext h0 φ W w φ1 W1 w1) (k : Ext h0 φ1 W1 w1 φ2 W2 w2) : Ext h0 φ W w φ2 W2 w2 where
  keeps b hb hu := (h.keeps b hb hu).trans (k.keeps b hb (h.keeps b hb hu).1)
  small c hc hw := h.small c hc (k.small c (Nat.lt_of_lt_of_le hc h.size) hw)
  mem c hc hw := (k.mem c (Nat.lt_of_lt_of_le hc h.size) (fun hw1 => hw (h.small c hc hw1))).trans (h.mem c hc hw)
  shape c x hx := k.shape c x (h.shape c x hx)
  size := Nat.le_trans h.size k.size

theorem Ext.mono {h0 h1 : Nat} {φ φ1 : Place} {W W1 : Nat → Prop} {w w1 : World} (h : Ext h0 φ W w φ1 W1 w1) (hh : h1 ≤ h0) : Ext h1 φ W w φ1 W1 w1 :=
  { h with keeps := fun b hb hu => h.keeps b (Nat.lt_of_lt_of_le hb hh) hu }

theorem block_lt_of_cell {w : World} {a : Addr} {v : Value} (h : w.cell? a = some v) : a.block < w.heap.size := World.block_lt_of_cell? w a h

theorem add_block (a : Addr) (n : Nat) : (a.add n).block = a.block := by unfold Addr.add; split <;> rfl

theorem cell_kept {w w' : World} {a : Addr} (h : w'.heap[a.block]? = w.heap[a.block]?) : w'.cell? a = w.cell? a := by simp [World.cell?, h]

theorem Geo.ext {w w' : World} {c s tot off len : Nat} {v : Value} (h : Geo w c s tot off len v) (hs : ∀ c x, w.shape? c = some x → w'.shape? c = some x) : Geo w' c s tot off len v := by
  obtain ⟨a, cap, t, z, e, h1, h2⟩ := h
  exact ⟨a, cap, t, z, e, hs _ _ h1, h2⟩

theorem VRel.mono {h0 : Nat} {φ φ' : Place} {W W' : Nat → Prop} {w w' : World} (E : Ext h0 φ W w φ' W' w') (hb : ∀ b, φ b ≠ .unborn → b < h0) {x : V} {v : Value} (h : VRel φ W w x v) : VRel φ' W' w' x v := by
  induction h with
  | undef v => exact .undef v
  | bool b => exact .bool b
  | int k n => exact .int k n
  | str s => exact .str s
  | nils => exact .nils
  | nilm => exact .nilm
  | nilx k v h => exact .nilx k v h
  | agg cs vs hl h1 _ ih => exact .agg cs vs hl h1 ih
  | tuple cs vs hl _ ih => exact .tuple cs vs hl ih
  | sl es a cap s vals hcap h0' hp hs hW hc hv ih =>
    cases es with
    | nil => exact .sl [] a cap s vals hcap h0' hp hs (fun h => absurd rfl h) (by simp) (by simp)
    | cons e es =>
      have hlt : a.block < w.heap.size := by
        have hl : e.cells.length = s := hs 0 e rfl
        cases hcs : e.cells with
        | nil => rw [hcs] at hl; simp at hl; omega
        | cons c r => have := block_lt_of_cell (hc 0 0 e c rfl (by rw [hcs]; rfl)).1; rwa [add_block] at this
      have hnw : ¬ W a.block := hW (by simp)
      refine .sl _ a cap s vals hcap h0' hp hs (fun _ hw => hnw (E.small _ hlt hw)) (fun i j e' c h1 h2 => ?_) ih
      rw [cell_kept (w := w)]
      · exact hc i j e' c h1 h2
      · rw [add_block]; exact E.mem _ hlt hnw
  | slnil => exact .slnil
  | own b tot off len v hv h0' h1 h2 h3 =>
    have hk := E.keeps b (hb b h1) h1
    refine .own b tot off len v hv h0' hk.1 (fun e => h2 (hk.2.1 e)) (fun c s n e => ?_)
    rcases hk.2.2 c s n e with e1 | ⟨c0, s0, n0, e1, hn⟩ | ⟨e1, hn⟩
    · exact ⟨(h3 _ _ _ e1).1, fun ht => ((h3 _ _ _ e1).2 ht).ext E.shape⟩
    · have := (h3 _ _ _ e1).1
      exact ⟨by omega, fun ht => by omega⟩
    · have := (h2 e1).1
      exact ⟨by omega, fun ht => by omega⟩
  | ptr b tot i off v hv h1 h2 h3 =>
    have hk := E.keeps b (hb b h1) h1
    refine .ptr b tot i off v hv hk.1 (fun e => h2 (hk.2.1 e)) (fun c s n e => ?_)
    rcases hk.2.2 c s n e with e1 | ⟨c0, s0, n0, e1, hn⟩ | ⟨e1, hn⟩
    · exact h3 _ _ _ e1
    · have := (h3 _ _ _ e1).1
      exact ⟨by omega, fun ht => by omega⟩
    · exact absurd e1 h2
  | rop e a vals h0' hW hc hv ih =>
    have hlt : a.block < w.heap.size := by
      cases hcs : e.cells with
      | nil => exact absurd hcs h0'
      | cons c r => have := block_lt_of_cell (hc 0 c (by rw [hcs]; rfl)).1; rwa [add_block] at this
    refine .rop e a vals h0' (fun hw => hW (E.small _ hlt hw)) (fun j c h1 => ?_) ih
    rw [cell_kept (w := w)]
    · exact hc j c h1
    · rw [add_block]; exact E.mem _ hlt hW
  | mapr ks vs r es clock hW hh h1 h2 hp hq hk hv ihk ihv =>
    have hlt : r < w.heap.size := (Array.getElem?_eq_some_iff.1 hh).1
    exact .mapr ks vs r es clock (fun hw => hW (E.small _ hlt hw)) ((E.mem _ hlt hW).trans hh) h1 h2 hp hq ihk ihv
  | mapn => exact .mapn
  | map b v hv h1 h3 =>
    have hk := E.keeps b (hb b h1) h1
    refine .map b v hv hk.1 (fun c s n e hn => ?_)
    rcases hk.2.2 c s n e with e1 | ⟨c0, s0, n0, e1, hn0⟩ | ⟨e1, hn0⟩
    · exact h3 _ _ _ e1 hn
    · omega
    · omega
  | fn f cs vs hl _ ih => exact .fn f cs vs hl ih
  | meth f cs vs hl _ ih => exact .meth f cs vs hl ih
  | view b tot i off len v hv h1 h2 h3 =>
    have hk := E.keeps b (hb b h1) h1
    refine .view b tot i off len v hv hk.1 (fun e => h2 (hk.2.1 e)) (fun c s n e => ?_)
    rcases hk.2.2 c s n e with e1 | ⟨c0, s0, n0, e1, hn⟩ | ⟨e1, hn⟩
    · exact h3 _ _ _ e1
    · have := (h3 _ _ _ e1).1
      exact ⟨by omega, fun ht => by omega⟩
    · exact absurd e1 h2

/-- What is related without own blocks refers to none. -/
theorem VRel.isPure {W : Nat → Prop} {w : World} {x : V} {v : Value} (h : VRel (fun _ => .unborn) W w x v) : pureV x = true := by
  induction h with
  | undef | bool | int | str | nils | nilm | nilx | slnil | mapn | sl | mapr => rfl
  | agg cs vs hl _ _ ih => exact pureL_of fun i c hc => ih i c vs[i]! hc (by have := (List.getElem?_eq_some_iff.1 hc).1; rw [getElem!_pos vs i (by omega)]; exact Array.getElem?_eq_getElem (by omega))
  | tuple cs vs hl _ ih => exact pureL_of fun i c hc => ih i c vs[i]! hc (by have := (List.getElem?_eq_some_iff.1 hc).1; rw [getElem!_pos vs i (by omega)]; exact Array.getElem?_eq_getElem (by omega))
  | fn f cs vs hl _ ih => exact pureL_of fun i c hc => ih i c vs[i]! hc (by have := (List.getElem?_eq_some_iff.1 hc).1; rw [getElem!_pos vs i (by omega)]; exact Array.getElem?_eq_getElem (by omega))
  | meth f cs vs hl _ ih => exact pureL_of fun i c hc => ih i c vs[i]! hc (by have := (List.getElem?_eq_some_iff.1 hc).1; rw [getElem!_pos vs i (by omega)]; exact Array.getElem?_eq_getElem (by omega))
  | view b tot i off len v hv h1 => exact absurd rfl h1
  | own b tot off len v hv h0 h1 => exact absurd rfl h1
  | ptr b tot i off v hv h1 => exact absurd rfl h1
  | map b v hv h1 => exact absurd rfl h1
  | rop e a vals h0 hW hc hv ih =>
    have hp : ∀ (j : Nat) (c : V), e.cells[j]? = some c → pureV c = true := fun j c hj => ih j c hj
    show pureV e = true
    by_cases ha : ∃ cs, e = .agg cs
    · obtain ⟨cs, rfl⟩ := ha
      simp only [pureV]
      exact pureL_of hp
    · have he : e.cells = [e] := by cases e <;> first | rfl | exact absurd ⟨_, rfl⟩ ha
      exact hp 0 e (by rw [he]; rfl)

/-- What refers to no own block is related whatever these are. -/
theorem VRel.toPure {φ : Place} {W : Nat → Prop} {w : World} {x : V} {v : Value} (h : VRel φ W w x v) (hp : pureV x = true) : VRel (fun _ => .unborn) W w x v := by
  induction h with
  | undef v => exact .undef v
  | bool b => exact .bool b
  | int k n => exact .int k n
  | str s => exact .str s
  | nils => exact .nils
  | nilm => exact .nilm
  | nilx k v h => exact .nilx k v h
  | agg cs vs hl h1 _ ih => exact .agg cs vs hl h1 fun i c v hc hv => ih i c v hc hv (pureL_at (by simpa [pureV] using hp) i c hc)
  | tuple cs vs hl _ ih => exact .tuple cs vs hl fun i c v hc hv => ih i c v hc hv (pureL_at (by simpa [pureV] using hp) i c hc)
  | fn f cs vs hl _ ih => exact .fn f cs vs hl fun i c v hc hv => ih i c v hc hv (pureL_at (by simpa [pureV] using hp) i c hc)
  | meth f cs vs hl _ ih => exact .meth f cs vs hl fun i c v hc hv => ih i c v hc hv (pureL_at (by simpa [pureV] using hp) i c hc)
  | sl es a cap s vals hcap h0' hq hs hW hc hv ih => exact .sl es a cap s vals hcap h0' hq hs hW hc fun i j e c h1 h2 => ih i j e c h1 h2 (pure_cells (pureL_at hq i e h1) j c h2)
  | slnil => exact .slnil
  | own | ptr | map | view => simp [pureV] at hp
  | rop e a vals h0' hW hc hv ih => exact .rop e a vals h0' hW hc fun j c h1 => ih j c h1 (pure_cells (by simpa [pureV] using hp) j c h1)
  | mapr ks vs r es clock hW hh h1 h2 hp' hq hk hv ihk ihv => exact .mapr ks vs r es clock hW hh h1 h2 hp' hq (fun i k x a b => ihk i k x a b (pureL_at hp' i k a)) (fun i k x a b => ihv i k x a b (pureL_at hq i k a))
  | mapn => exact .mapn

end Go.Abs

namespace Go.Abs
open Go.RowKit

def Blk.wr : Blk → Bool
  | .dat w _ _ => w
  | .box _ => true
  | .map w _ _ => w
  | .arr .. => true
  | .dead => true

def pure0 : Place := fun _ => .unborn

/-- What may be written: the blocks of Z, and the own ones that are not frozen. -/
def Wr (φ : Place) (H : Heap) (Z : Nat → Prop) (c : Nat) : Prop := Z c ∨ ∃ b s n x, φ b = .at c s n ∧ H[b]? = some x ∧ x.wr = true

/-- A block that is not frozen, nor at its end unless it is one of single cells. -/
def Frz (s size : Nat) (fr : Nat × Nat) : Prop := (∀ j, j < size → ¬ (fr.1 ≤ j ∧ j < fr.2)) ∧ (s = 1 ∨ fr = (0, 0))

theorem Frz.none (s n : Nat) : Frz s n (0, 0) := ⟨fun _ _ h => absurd h.2 (Nat.not_lt_zero _), .inr rfl⟩
theorem Frz.size {s n m : Nat} {fr : Nat × Nat} (h : Frz s n fr) (e : m = n) : Frz s m fr := e ▸ h

/-- Block c holds the elements es, s cells each, and is not frozen. -/
def Row (φ : Place) (W : Nat → Prop) (w : World) (c s : Nat) (es : List V) : Prop :=
  0 < s ∧ ∃ cs t fr, w.heap[c]? = some (.cells cs t fr) ∧ es.length * s ≤ cs.size ∧ Frz s cs.size fr ∧
    ∀ (i : Nat) (e : V), es[i]? = some e → e.cells.length = s ∧ ∀ (j : Nat) (x : V), e.cells[j]? = some x → ∃ v, cs[i * s + j]? = some v ∧ v.oneCell' = true ∧ VRel φ W w x v

def MapRow (W : Nat → Prop) (w : World) (c : Nat) (ks vs : List V) : Prop :=
  ∃ es clock, w.heap[c]? = some (.map es clock) ∧ ks.length = es.size ∧ vs.length = es.size ∧
    (∀ (i : Nat) (k : V) (x : MapEntry), ks[i]? = some k → es[i]? = some x → VRel pure0 W w k x.key) ∧ ∀ (i : Nat) (v : V) (x : MapEntry), vs[i]? = some v → es[i]? = some x → VRel pure0 W w v x.val

def BlkRel (φ : Place) (W : Nat → Prop) (w : World) : Blk → (c s n : Nat) → Prop
  | .dat _ sz es, c, s, n => n = es.length ∧ sz = s ∧ Row pure0 W w c s es
  | .box e, c, s, n => n = 1 ∧ Row φ W w c s [e]
  | .map _ ks vs, c, _, n => n = 0 ∧ MapRow W w c ks vs
  | .arr t sz es, c, s, n => n = es.length ∧ sz = s ∧ Row φ W w c s es ∧ ∀ T, t = some T → (∃ cs, w.heap[c]? = some (.cells cs T (0, 0)) ∧ (s ≠ 1 → cs.size = s * n)) ∧ (s = 1 → 0 < n)
  | .dead, _, _, _ => True

structure Inv (base : Nat) (Z : Nat → Prop) (φ : Place) (H : Heap) (w : World) : Prop where
  hz : ∀ c, Z c → c < base
  hb : base ≤ w.heap.size
  born : ∀ b, H.length ≤ b → φ b = .unborn
  inj : ∀ b b' c s n s' n', φ b = .at c s n → φ b' = .at c s' n' → b = b'
  rng : ∀ b c s n, φ b = .at c s n → base ≤ c ∧ c < w.heap.size
  blk : ∀ b c s n, φ b = .at c s n → ∃ x, H[b]? = some x ∧ BlkRel φ (Wr φ H Z) w x c s n
  nil : ∀ b, φ b = .nil → (∃ wr s, H[b]? = some (.dat wr s []) ∧ 0 < s) ∨ ∃ t s, H[b]? = some (.arr t s []) ∧ 0 < s

theorem Inv.lt {base : Nat} {Z : Nat → Prop} {φ : Place} {H : Heap} {w : World} (I : Inv base Z φ H w) {b : Nat} (h : φ b ≠ .unborn) : b < H.length := by
  rcases Nat.lt_or_ge b H.length with h1 | h1
  · exact h1
  · exact absurd (I.born b h1) h

theorem VRel.ofPure {φ : Place} {W : Nat → Prop} {w : World} {x : V} {v : Value} (h : VRel pure0 W w x v) : VRel φ W w x v :=
  h.mono (h0 := 0) ⟨fun b hb => absurd hb (by omega), fun _ _ h => h, fun _ _ _ => rfl, fun _ _ h => h, Nat.le_refl _⟩ (fun _ h => absurd rfl h)

theorem Row.mono {h0 : Nat} {φ φ' : Place} {W W' : Nat → Prop} {w w' : World} {c s : Nat} {es : List V} (E : Ext h0 φ W w φ' W' w') (hb : ∀ b, φ b ≠ .unborn → b < h0)
    (hc : w'.heap[c]? = w.heap[c]?) (h : Row φ W w c s es) : Row φ' W' w' c s es := by
  obtain ⟨h0, cs, t, fr, h1, h2, h3, h4⟩ := h
  refine ⟨h0, cs, t, fr, hc.trans h1, h2, h3, fun i e he => ⟨(h4 i e he).1, fun j x hx => ?_⟩⟩
  obtain ⟨v, hv, h1, hr⟩ := (h4 i e he).2 j x hx
  exact ⟨v, hv, h1, hr.mono E hb⟩

/-- The same for what refers to no own block. -/
theorem Ext.pure {h0 : Nat} {φ φ' : Place} {W W' : Nat → Prop} {w w' : World} (E : Ext h0 φ W w φ' W' w') : Ext 0 pure0 W w pure0 W' w' :=
  { E with keeps := fun b hb => absurd hb (by omega) }

theorem VRel.mono0 {h0 : Nat} {φ φ' : Place} {W W' : Nat → Prop} {w w' : World} (E : Ext h0 φ W w φ' W' w') {x : V} {v : Value} (h : VRel pure0 W w x v) : VRel pure0 W' w' x v :=
  h.mono E.pure (fun _ h => absurd rfl h)

theorem Row.mono0 {h0 : Nat} {φ φ' : Place} {W W' : Nat → Prop} {w w' : World} {c s : Nat} {es : List V} (E : Ext h0 φ W w φ' W' w')
    (hc : w'.heap[c]? = w.heap[c]?) (h : Row pure0 W w c s es) : Row pure0 W' w' c s es := Row.mono E.pure (fun _ h => absurd rfl h) hc h

theorem MapRow.mono {h0 : Nat} {φ φ' : Place} {W W' : Nat → Prop} {w w' : World} {c : Nat} {ks vs : List V} (E : Ext h0 φ W w φ' W' w')
    (hc : w'.heap[c]? = w.heap[c]?) (h : MapRow W w c ks vs) : MapRow W' w' c ks vs := by
  obtain ⟨es, clock, h1, h2, h3, h4, h5⟩ := h
  exact ⟨es, clock, hc.trans h1, h2, h3, fun i k x a b => (h4 i k x a b).mono0 E, fun i k x a b => (h5 i k x a b).mono0 E⟩

theorem BlkRel.mono {h0 : Nat} {φ φ' : Place} {W W' : Nat → Prop} {w w' : World} {x : Blk} {c s n : Nat} (E : Ext h0 φ W w φ' W' w') (hb : ∀ b, φ b ≠ .unborn → b < h0)
    (hc : w'.heap[c]? = w.heap[c]?) (h : BlkRel φ W w x c s n) : BlkRel φ' W' w' x c s n := by
  cases x with
  | dat wr sz es => exact ⟨h.1, h.2.1, h.2.2.mono0 E hc⟩
  | box e => exact ⟨h.1, h.2.mono E hb hc⟩
  | map wr ks vs => exact ⟨h.1, h.2.mono E hc⟩
  | arr t sz es => exact ⟨h.1, h.2.1, h.2.2.1.mono E hb hc, fun T hT => by obtain ⟨⟨z, hz, hn⟩, h0⟩ := h.2.2.2 T hT; exact ⟨⟨z, hc.trans hz, hn⟩, h0⟩⟩
  | dead => exact trivial

/-- A block that is the same but for being frozen. -/
def Blk.le : Blk → Blk → Prop
  | .dat w s es, .dat w' s' es' => s = s' ∧ es = es' ∧ (w' = true → w = true)
  | .box e, .box e' => e = e'
  | .map w ks vs, .map w' ks' vs' => ks = ks' ∧ vs = vs' ∧ (w' = true → w = true)
  | .arr t s es, .arr t' s' es' => t = t' ∧ s = s' ∧ es = es'
  | .dead, .dead => True
  | _, _ => False

theorem Blk.le_refl (x : Blk) : x.le x := by cases x <;> simp [Blk.le]
theorem Blk.le_trans {x y z : Blk} (h : x.le y) (k : y.le z) : x.le z := by
  cases x <;> cases y <;> cases z <;> simp_all [Blk.le]
theorem Blk.le_wr {x y : Blk} (h : x.le y) (k : y.wr = true) : x.wr = true := by
  cases x <;> cases y <;> simp_all [Blk.le, Blk.wr]

/-- The heap with more blocks, some frozen. -/
def Le (H H' : Heap) : Prop := H.length ≤ H'.length ∧ ∀ (b : Nat) (x : Blk), H[b]? = some x → ∃ y, H'[b]? = some y ∧ x.le y

theorem Le.refl (H : Heap) : Le H H := ⟨Nat.le_refl _, fun _ x h => ⟨x, h, x.le_refl⟩⟩
theorem Le.trans {A B C : Heap} (h : Le A B) (k : Le B C) : Le A C :=
  ⟨Nat.le_trans h.1 k.1, fun b x hx => by
    obtain ⟨y, hy, h1⟩ := h.2 b x hx
    obtain ⟨z, hz, h2⟩ := k.2 b y hy
    exact ⟨z, hz, Blk.le_trans h1 h2⟩⟩
theorem Le.append (H N : Heap) : Le H (H ++ N) :=
  ⟨by simp, fun b x h => ⟨x, by rw [List.getElem?_append_left (List.getElem?_eq_some_iff.1 h).1]; exact h, x.le_refl⟩⟩

theorem wr_le {φ : Place} {H H' : Heap} {Z : Nat → Prop} (h : Le H H') (I : ∀ b, φ b ≠ .unborn → b < H.length) (c : Nat) (hw : Wr φ H' Z c) : Wr φ H Z c := by
  rcases hw with hw | ⟨b, s, n, x, h1, h2, h3⟩
  · exact .inl hw
  · have hlt := I b (by rw [h1]; simp)
    obtain ⟨y, hy, hle⟩ := h.2 b H[b] (List.getElem?_eq_getElem hlt)
    rw [h2] at hy
    cases hy
    exact .inr ⟨b, s, n, _, h1, List.getElem?_eq_getElem hlt, Blk.le_wr hle h3⟩

theorem Ext.frz {h0 : Nat} {φ : Place} {W W' : Nat → Prop} {w : World} (h : ∀ c, W' c → W c) : Ext h0 φ W w φ W' w :=
  ⟨fun _ _ h => .refl h, fun _ _ hw => h _ hw, fun _ _ _ => rfl, fun _ _ h => h, Nat.le_refl _⟩

theorem BlkRel.le {φ : Place} {W : Nat → Prop} {w : World} {x y : Blk} {c s n : Nat} (h : x.le y) (k : BlkRel φ W w x c s n) : BlkRel φ W w y c s n := by
  cases x <;> cases y <;> simp only [Blk.le] at h
  · obtain ⟨rfl, rfl, _⟩ := h; exact k
  · subst h; exact k
  · obtain ⟨rfl, rfl, _⟩ := h; exact k
  · obtain ⟨rfl, rfl, rfl⟩ := h; exact k
  · exact trivial

theorem Inv.le {base : Nat} {Z : Nat → Prop} {φ : Place} {H H' : Heap} {w : World} (I : Inv base Z φ H w) (h : Le H H') : Inv base Z φ H' w where
  hz := I.hz
  hb := I.hb
  born b hb := I.born b (Nat.le_trans h.1 hb)
  inj := I.inj
  rng := I.rng
  blk b c s n hb := by
    obtain ⟨x, hx, hr⟩ := I.blk b c s n hb
    obtain ⟨y, hy, hle⟩ := h.2 b x hx
    exact ⟨y, hy, (hr.mono (h0 := H.length) (Ext.frz (wr_le h fun b => I.lt)) (fun _ => I.lt) rfl).le hle⟩
  nil b hb := by
    rcases I.nil b hb with ⟨wr, s, hx, hs⟩ | ⟨t, s, hx, hs⟩
    · obtain ⟨y, hy, hle⟩ := h.2 b _ hx
      cases y <;> simp only [Blk.le] at hle
      exact .inl ⟨_, s, by rw [hle.1, hle.2.1]; exact hy, hs⟩
    · obtain ⟨y, hy, hle⟩ := h.2 b _ hx
      cases y <;> simp only [Blk.le] at hle
      exact .inr ⟨t, s, by rw [hle.1, hle.2.1, hle.2.2]; exact hy, hs⟩

/-- A step of a call: from one state to a later one, and below 'base' nothing has turned. -/
structure Step (base h0 : Nat) (φ : Place) (W : Nat → Prop) (w : World) (φ' : Place) (W' : Nat → Prop) (w' : World) : Prop where
  ext : Ext h0 φ W w φ' W' w'
  below : Below base w w'

theorem Step.refl (base h0 : Nat) (φ : Place) (W : Nat → Prop) (w : World) : Step base h0 φ W w φ W w := ⟨.refl .., .refl ..⟩
theorem Step.trans {base h0 : Nat} {φ φ1 φ2 : Place} {W W1 W2 : Nat → Prop} {w w1 w2 : World} (h : Step base h0 φ W w φ1 W1 w1) (k : Step base h0 φ1 W1 w1 φ2 W2 w2) : Step base h0 φ W w φ2 W2 w2 :=
  ⟨h.ext.trans k.ext, h.below.trans k.below⟩
theorem Step.mono {base h0 h1 : Nat} {φ φ1 : Place} {W W1 : Nat → Prop} {w w1 : World} (h : Step base h0 φ W w φ1 W1 w1) (hh : h1 ≤ h0) : Step base h1 φ W w φ1 W1 w1 := ⟨h.ext.mono hh, h.below⟩
theorem Step.frz {base h0 : Nat} {φ : Place} {W W' : Nat → Prop} {w : World} (h : ∀ c, W' c → W c) : Step base h0 φ W w φ W' w := ⟨.frz h, .refl ..⟩

theorem Ext.drew {h0 : Nat} {φ : Place} {W : Nat → Prop} {w : World} : Ext h0 φ W w φ W w.drew :=
  ⟨fun _ _ h => .refl h, fun _ _ h => h, fun _ _ _ => rfl, fun _ _ h => h, Nat.le_refl _⟩
theorem Step.drew {base h0 : Nat} {φ : Place} {W : Nat → Prop} {w : World} : Step base h0 φ W w φ W w.drew := ⟨.drew, Below.drew (.refl ..)⟩

theorem Inv.drew {base : Nat} {Z : Nat → Prop} {φ : Place} {H : Heap} {w : World} (I : Inv base Z φ H w) : Inv base Z φ H w.drew where
  hz := I.hz
  hb := I.hb
  born := I.born
  inj := I.inj
  rng := I.rng
  blk b c s n hb := by
    obtain ⟨x, hx, hr⟩ := I.blk b c s n hb
    exact ⟨x, hx, hr.mono (h0 := H.length) Ext.drew (fun _ => I.lt) rfl⟩
  nil := I.nil

def upd (φ : Place) (b : Nat) (l : Loc) : Place := fun i => if i = b then l else φ i
@[simp] theorem upd_same (φ : Place) (b : Nat) (l : Loc) : upd φ b l b = l := by simp [upd]
theorem upd_ne (φ : Place) {b i : Nat} (l : Loc) (h : i ≠ b) : upd φ b l i = φ i := by simp [upd, h]

theorem heap_alloc_lt (w : World) (o : Obj) (c : Nat) (h : c < w.heap.size) : (w.alloc o).heap[c]? = w.heap[c]? := Below.heap_alloc w o c h
theorem heap_alloc_at (w : World) (o : Obj) : (w.alloc o).heap[w.heap.size]? = some o := by show (w.heap.push o)[w.heap.size]? = _; simp

theorem Ext.alloc {h0 b : Nat} {φ : Place} {H : Heap} {Z : Nat → Prop} {w : World} {l : Loc} (o : Obj) (hu : φ b = .unborn) (hl : ∀ c s n, l = .at c s n → w.heap.size ≤ c) : Ext h0 φ (Wr φ H Z) w (upd φ b l) (Wr (upd φ b l) H Z) (w.alloc o) where
  keeps i _ h := by rw [upd_ne _ _ (by rintro rfl; exact h hu)]; exact .refl h
  small c hc hw := by
    rcases hw with hw | ⟨i, s, n, x, h1, h2, h3⟩
    · exact .inl hw
    · by_cases hi : i = b
      · subst hi
        rw [upd_same] at h1
        have := hl _ _ _ h1
        omega
      · rw [upd_ne _ _ hi] at h1
        exact .inr ⟨i, s, n, x, h1, h2, h3⟩
  mem c hc _ := heap_alloc_lt w o c hc
  shape c x hx := by
    have hc : c < w.heap.size := by
      unfold World.shape? at hx
      cases hh : w.heap[c]? with
      | none => rw [hh] at hx; cases hx
      | some _ => exact (Array.getElem?_eq_some_iff.1 hh).1
    rw [shape_of_heap (heap_alloc_lt w o c hc)]; exact hx
  size := by simp

/-- A block is born. -/
theorem Inv.alloc {base b : Nat} {Z : Nat → Prop} {φ : Place} {H : Heap} {w : World} {x : Blk} {s n : Nat} (I : Inv base Z φ H w) (o : Obj) (hu : φ b = .unborn) (hx : H[b]? = some x)
    (hr : BlkRel (upd φ b (.at w.heap.size s n)) (Wr (upd φ b (.at w.heap.size s n)) H Z) (w.alloc o) x w.heap.size s n) :
    Inv base Z (upd φ b (.at w.heap.size s n)) H (w.alloc o) where
  hz := I.hz
  hb := by have := I.hb; simp; omega
  born i hi := by
    rw [upd_ne _ _ (by rintro rfl; have := (List.getElem?_eq_some_iff.1 hx).1; omega)]
    exact I.born i hi
  inj i j c s1 n1 s2 n2 h1 h2 := by
    by_cases hi : i = b <;> by_cases hj : j = b
    · rw [hi, hj]
    · subst hi
      rw [upd_same] at h1
      rw [upd_ne _ _ hj] at h2
      cases h1
      have := (I.rng _ _ _ _ h2).2
      omega
    · subst hj
      rw [upd_same] at h2
      rw [upd_ne _ _ hi] at h1
      cases h2
      have := (I.rng _ _ _ _ h1).2
      omega
    · rw [upd_ne _ _ hi] at h1
      rw [upd_ne _ _ hj] at h2
      exact I.inj _ _ _ _ _ _ _ h1 h2
  rng i c s1 n1 h1 := by
    by_cases hi : i = b
    · subst hi
      rw [upd_same] at h1
      cases h1
      exact ⟨I.hb, by simp⟩
    · rw [upd_ne _ _ hi] at h1
      have := I.rng _ _ _ _ h1
      exact ⟨this.1, by simp; omega⟩
  blk i c s1 n1 h1 := by
    by_cases hi : i = b
    · subst hi
      rw [upd_same] at h1
      cases h1
      exact ⟨x, hx, hr⟩
    · rw [upd_ne _ _ hi] at h1
      obtain ⟨y, hy, hry⟩ := I.blk _ _ _ _ h1
      exact ⟨y, hy, hry.mono (h0 := H.length) (Ext.alloc o hu (by intro _ _ _ h; cases h; exact Nat.le_refl _)) (fun _ => I.lt) (heap_alloc_lt w o c (I.rng _ _ _ _ h1).2)⟩
  nil i h1 := by
    by_cases hi : i = b
    · subst hi; rw [upd_same] at h1; cases h1
    · rw [upd_ne _ _ hi] at h1; exact I.nil i h1

theorem Step.alloc {base h0 b : Nat} {φ : Place} {H : Heap} {Z : Nat → Prop} {w : World} {s n : Nat} (o : Obj) (hb : base ≤ w.heap.size) (hu : φ b = .unborn) : Step base h0 φ (Wr φ H Z) w (upd φ b (.at w.heap.size s n)) (Wr (upd φ b (.at w.heap.size s n)) H Z) (w.alloc o) :=
  ⟨.alloc o hu (by intro _ _ _ h; cases h; exact Nat.le_refl _), Below.alloc (.refl ..) hb o⟩

/-- A block is born that is nil. -/
theorem Ext.nil {h0 b : Nat} {φ : Place} {H : Heap} {Z : Nat → Prop} {w : World} (hu : φ b = .unborn) : Ext h0 φ (Wr φ H Z) w (upd φ b .nil) (Wr (upd φ b .nil) H Z) w where
  keeps i _ h := by rw [upd_ne _ _ (by rintro rfl; exact h hu)]; exact .refl h
  small c hc hw := by
    rcases hw with hw | ⟨i, s, n, x, h1, h2, h3⟩
    · exact .inl hw
    · by_cases hi : i = b
      · subst hi; rw [upd_same] at h1; cases h1
      · rw [upd_ne _ _ hi] at h1
        exact .inr ⟨i, s, n, x, h1, h2, h3⟩
  mem _ _ _ := rfl
  shape _ _ h := h
  size := Nat.le_refl _

theorem Inv.nilBorn' {base b : Nat} {Z : Nat → Prop} {φ : Place} {H : Heap} {w : World} (I : Inv base Z φ H w) (hu : φ b = .unborn) (hx : (∃ wr s, H[b]? = some (.dat wr s []) ∧ 0 < s) ∨ ∃ t s, H[b]? = some (.arr t s []) ∧ 0 < s) : Inv base Z (upd φ b .nil) H w where
  hz := I.hz
  hb := I.hb
  born i hi := by
    rw [upd_ne _ _ (by rintro rfl; rcases hx with ⟨_, _, hx, _⟩ | ⟨_, _, hx, _⟩ <;> (have := (List.getElem?_eq_some_iff.1 hx).1; omega))]
    exact I.born i hi
  inj i j c s1 n1 s2 n2 h1 h2 := by
    by_cases hi : i = b
    · subst hi; rw [upd_same] at h1; cases h1
    · by_cases hj : j = b
      · subst hj; rw [upd_same] at h2; cases h2
      · rw [upd_ne _ _ hi] at h1
        rw [upd_ne _ _ hj] at h2
        exact I.inj _ _ _ _ _ _ _ h1 h2
  rng i c s1 n1 h1 := by
    by_cases hi : i = b
    · subst hi; rw [upd_same] at h1; cases h1
    · rw [upd_ne _ _ hi] at h1; exact I.rng _ _ _ _ h1
  blk i c s1 n1 h1 := by
    by_cases hi : i = b
    · subst hi; rw [upd_same] at h1; cases h1
    · rw [upd_ne _ _ hi] at h1
      obtain ⟨y, hy, hry⟩ := I.blk _ _ _ _ h1
      exact ⟨y, hy, hry.mono (h0 := H.length) (Ext.nil hu) (fun _ => I.lt) rfl⟩
  nil i h1 := by
    by_cases hi : i = b
    · subst hi; exact hx
    · rw [upd_ne _ _ hi] at h1; exact I.nil i h1

theorem Inv.nilBorn {base b : Nat} {Z : Nat → Prop} {φ : Place} {H : Heap} {w : World} {wr : Bool} {s : Nat} (I : Inv base Z φ H w) (hu : φ b = .unborn) (hx : H[b]? = some (.dat wr s [])) (hs : 0 < s) : Inv base Z (upd φ b .nil) H w :=
  I.nilBorn' hu (.inl ⟨_, _, hx, hs⟩)

theorem Step.nil {base h0 b : Nat} {φ : Place} {H : Heap} {Z : Nat → Prop} {w : World} (hu : φ b = .unborn) : Step base h0 φ (Wr φ H Z) w (upd φ b .nil) (Wr (upd φ b .nil) H Z) w := ⟨.nil hu, .refl ..⟩

end Go.Abs

namespace Go.Abs
open Go.RowKit

theorem add_at (c k m : Nat) : (⟨c, k, none⟩ : Addr).add m = ⟨c, k + m, none⟩ := by
  unfold Addr.add; split <;> simp_all

theorem add_add (a : Addr) (m n : Nat) : (a.add m).add n = a.add (m + n) := by
  unfold Addr.add
  by_cases hm : m = 0 <;> by_cases hn : n = 0 <;> simp_all <;> omega

theorem cell_at {w : World} {c k : Nat} {cs : Array Value} {t : TypeId} {fr : Nat × Nat} (h : w.heap[c]? = some (.cells cs t fr)) : w.cell? ⟨c, k, none⟩ = cs[k]? := by
  simp [World.cell?, h]

theorem shape_at {w : World} {c : Nat} {cs : Array Value} {t : TypeId} {fr : Nat × Nat} (h : w.heap[c]? = some (.cells cs t fr)) : w.shape? c = some (t, cs.size) := by
  simp [World.shape?, h]

theorem frozen_at {w : World} {c k : Nat} {cs : Array Value} {t : TypeId} {fr : Nat × Nat} (h : w.heap[c]? = some (.cells cs t fr)) (hf : ∀ j, j < cs.size → ¬ (fr.1 ≤ j ∧ j < fr.2)) (hk : k < cs.size) : w.frozen? ⟨c, k, none⟩ = false := by
  obtain ⟨lo, hi⟩ := fr
  have := hf k hk
  simp only [World.frozen?, h]
  simp at this ⊢
  omega

/-- A slice over an own block, read. -/
theorem own_read {base : Nat} {Z W0 : Nat → Prop} {φ : Place} {HF : Heap} {w : World} {b tot off len : Nat} {v : Value} {wr : Bool} {sz : Nat} {es : List V} (I : Inv base Z φ HF w) (hx : HF[b]? = some (.dat wr sz es)) (ht : es.length = tot)
    (h : VRel φ W0 w (.own b tot off len) v) :
    off + len ≤ tot ∧ ((φ b = .nil ∧ es = [] ∧ v = .slice none 0 0 ∧ off = 0 ∧ len = 0) ∨ ∃ c, φ b = .at c sz tot ∧ Row pure0 (Wr φ HF Z) w c sz es ∧ Geo w c sz tot off len v) := by
  cases h with
  | own _ _ _ _ _ _ h0 h1 h2 h3 =>
  refine ⟨h0, ?_⟩
  cases hl : φ b with
  | unborn => exact absurd hl h1
  | nil =>
    obtain ⟨h4, h5⟩ := h2 hl
    rcases I.nil b hl with ⟨wr', s', hn, _⟩ | ⟨_, _, hn, _⟩
    · rw [hx] at hn
      cases hn
      exact .inl ⟨rfl, rfl, h5, by omega, by omega⟩
    · rw [hx] at hn
      cases hn
  | «at» c s n =>
    obtain ⟨y, hy, hr⟩ := I.blk b c s n hl
    rw [hx] at hy
    cases hy
    obtain ⟨hn, rfl, hrow⟩ := hr
    have hn' : n = tot := by omega
    subst hn'
    exact .inr ⟨c, rfl, hrow, (h3 c _ n hl).2 rfl⟩

/-- A slice over an own block of any values, read. -/
theorem own_readA {base : Nat} {Z W0 : Nat → Prop} {φ : Place} {HF : Heap} {w : World} {b tot off len : Nat} {v : Value} {ta : Option TypeId} {sz : Nat} {es : List V} (I : Inv base Z φ HF w) (hx : HF[b]? = some (.arr ta sz es)) (ht : es.length = tot)
    (h : VRel φ W0 w (.own b tot off len) v) :
    off + len ≤ tot ∧ ((φ b = .nil ∧ es = [] ∧ v = .slice none 0 0 ∧ off = 0 ∧ len = 0) ∨ ∃ c, φ b = .at c sz tot ∧ Row φ (Wr φ HF Z) w c sz es ∧ Geo w c sz tot off len v ∧ ∀ T, ta = some T → (∃ cs, w.heap[c]? = some (.cells cs T (0, 0)) ∧ (sz ≠ 1 → cs.size = sz * tot)) ∧ (sz = 1 → 0 < tot)) := by
  cases h with
  | own _ _ _ _ _ _ h0 h1 h2 h3 =>
  refine ⟨h0, ?_⟩
  cases hl : φ b with
  | unborn => exact absurd hl h1
  | nil =>
    obtain ⟨h4, h5⟩ := h2 hl
    rcases I.nil b hl with ⟨wr', s', hn, _⟩ | ⟨_, _, hn, _⟩
    · rw [hx] at hn
      cases hn
    · rw [hx] at hn
      cases hn
      exact .inl ⟨rfl, rfl, h5, by omega, by omega⟩
  | «at» c s n =>
    obtain ⟨y, hy, hr⟩ := I.blk b c s n hl
    rw [hx] at hy
    cases hy
    obtain ⟨hn, rfl, hrow, hT⟩ := hr
    have hn' : n = tot := by omega
    subst hn'
    exact .inr ⟨c, rfl, hrow, (h3 c _ n hl).2 rfl, hT⟩

/-- The same as a slice that is only read. -/
theorem sl_of_own {W W' : Nat → Prop} {w : World} {c s tot off len : Nat} {v : Value} {es : List V} (hr : Row pure0 W w c s es) (ht : es.length = tot) (hg : Geo w c s tot off len v) (h0 : off + len ≤ tot)
    (hW : ∀ c, W' c → W c) (hc : ¬ W' c) : VRel pure0 W' w (.sl ((es.drop off).take len)) v := by
  obtain ⟨a, cap, t, z, rfl, hsh, hcap, ha, _⟩ := hg
  obtain ⟨hs0, cs, t', fr, hh, hsz, hfr, hel⟩ := hr
  have hlen : ((es.drop off).take len).length = len := by rw [List.length_take, List.length_drop]; omega
  have key : ∀ (i : Nat) (e : V), ((es.drop off).take len)[i]? = some e → es[off + i]? = some e ∧ i < len := fun i e he => by
    rw [List.getElem?_take] at he
    split at he
    · rename_i hi
      rw [List.getElem?_drop] at he
      exact ⟨he, hi⟩
    · cases he
  have hres := VRel.sl (φ := pure0) (W := W') (w := w) ((es.drop off).take len) a cap s (fun k => cs[off * s + k]!) (by omega) hs0
    (pureL_of fun i e he => by
      have h1 := (hel _ _ (key i e he).1)
      by_cases hag : ∃ l, e = .agg l
      · obtain ⟨l, rfl⟩ := hag
        simp only [pureV]
        refine pureL_of fun j x hx => ?_
        obtain ⟨u, _, _, hu⟩ := h1.2 j x hx
        exact hu.isPure
      · have hce : e.cells = [e] := by cases e <;> first | rfl | exact absurd ⟨_, rfl⟩ hag
        obtain ⟨u, _, _, hu⟩ := h1.2 0 e (by rw [hce]; rfl)
        exact hu.isPure)
    (fun i e he => (hel _ _ (key i e he).1).1)
    (fun hne => by
      have : 0 < len := by
        rcases Nat.eq_zero_or_pos len with h | h
        · subst h; exact absurd (by simp) hne
        · exact h
      rw [ha (.inl this)]
      exact hc)
    (fun i j e x he hx => by
      have hk := key i e he
      obtain ⟨u, hu, hu1, _⟩ := (hel _ _ hk.1).2 j x hx
      rw [ha (.inl (by omega)), add_at, cell_at hh]
      have e1 : off * s + (i * s + j) = (off + i) * s + j := by rw [Nat.add_mul]; omega
      rw [e1, getElem!_def, hu]
      exact ⟨rfl, hu1⟩)
    (fun i j e x he hx => by
      have hk := key i e he
      obtain ⟨u, hu, _, hr⟩ := (hel _ _ hk.1).2 j x hx
      have e1 : off * s + (i * s + j) = (off + i) * s + j := by rw [Nat.add_mul]; omega
      have e2 : cs[off * s + (i * s + j)]! = u := by rw [e1, getElem!_def, hu]
      show VRel _ _ _ _ (cs[off * s + (i * s + j)]!)
      rw [e2]
      exact hr.mono (h0 := 0) (Ext.frz hW) (fun _ h => absurd rfl h))
  rw [hlen] at hres
  exact hres

theorem take_all {es : List V} {tot off len : Nat} (ht : es.length = tot) : (if off = 0 ∧ len = tot then es else (es.drop off).take len) = (es.drop off).take len := by
  split
  · rename_i h
    obtain ⟨rfl, rfl⟩ := h
    simp [← ht]
  · rfl

theorem sealL_at {H : Heap} : ∀ {cs cs' : List V} {bs : List Nat}, sealL H cs = some (cs', bs) →
    cs'.length = cs.length ∧ ∀ (i : Nat) (c : V), cs[i]? = some c → ∃ c' b', sealV H c = some (c', b') ∧ cs'[i]? = some c' ∧ ∀ x ∈ b', x ∈ bs
  | [], cs', bs, h => by simp only [sealL] at h; cases h; exact ⟨rfl, fun i c hc => by simp at hc⟩
  | c :: cs, cs', bs, h => by
    simp only [sealL] at h
    split at h
    · rename_i c1 b1 cs1 bs1 h1 h2
      cases h
      obtain ⟨hl, hh⟩ := sealL_at h2
      refine ⟨by simp [hl], fun i d hd => ?_⟩
      cases i with
      | zero => simp at hd; subst hd; exact ⟨c1, b1, h1, rfl, fun x hx => List.mem_append_left _ hx⟩
      | succ i =>
        obtain ⟨c', b', e1, e2, e3⟩ := hh i d (by simpa using hd)
        exact ⟨c', b', e1, by simpa using e2, fun x hx => List.mem_append_right _ (e3 x hx)⟩
    · cases h

theorem Le.dat {H HF : Heap} {b : Nat} {wr : Bool} {sz : Nat} {es : List V} (hle : Le H HF) (h : H[b]? = some (.dat wr sz es)) : ∃ wr', HF[b]? = some (.dat wr' sz es) := by
  obtain ⟨y, hy, hl⟩ := hle.2 b _ h
  cases y <;> simp only [Blk.le] at hl
  obtain ⟨rfl, rfl, _⟩ := hl
  exact ⟨_, hy⟩

theorem Le.map {H HF : Heap} {b : Nat} {wr : Bool} {ks vs : List V} (hle : Le H HF) (h : H[b]? = some (.map wr ks vs)) : ∃ wr', HF[b]? = some (.map wr' ks vs) := by
  obtain ⟨y, hy, hl⟩ := hle.2 b _ h
  cases y <;> simp only [Blk.le] at hl
  obtain ⟨rfl, rfl, _⟩ := hl
  exact ⟨_, hy⟩

theorem Le.box {H HF : Heap} {b : Nat} {e : V} (hle : Le H HF) (h : H[b]? = some (.box e)) : HF[b]? = some (.box e) := by
  obtain ⟨y, hy, hl⟩ := hle.2 b _ h
  cases y <;> simp only [Blk.le] at hl
  subst hl
  exact hy

theorem Le.arr {H HF : Heap} {b : Nat} {t : Option TypeId} {sz : Nat} {es : List V} (hle : Le H HF) (h : H[b]? = some (.arr t sz es)) : HF[b]? = some (.arr t sz es) := by
  obtain ⟨y, hy, hl⟩ := hle.2 b _ h
  cases y <;> simp only [Blk.le] at hl
  obtain ⟨rfl, rfl, rfl⟩ := hl
  exact hy

theorem MapRow.pure {W : Nat → Prop} {w : World} {c : Nat} {ks vs : List V} (h : MapRow W w c ks vs) : pureL ks = true ∧ pureL vs = true := by
  obtain ⟨es, clock, _, h1, h2, h3, h4⟩ := h
  exact ⟨pureL_of fun i k hk => (h3 i k es[i]! hk (by have := (List.getElem?_eq_some_iff.1 hk).1; rw [getElem!_pos es i (by omega)]; exact Array.getElem?_eq_getElem (by omega))).isPure,
    pureL_of fun i k hk => (h4 i k es[i]! hk (by have := (List.getElem?_eq_some_iff.1 hk).1; rw [getElem!_pos es i (by omega)]; exact Array.getElem?_eq_getElem (by omega))).isPure⟩

theorem mapr_of {W W' : Nat → Prop} {w : World} {c : Nat} {ks vs : List V} (h : MapRow W w c ks vs) (hW : ∀ c, W' c → W c) (hc : ¬ W' c) : VRel pure0 W' w (.mapr ks vs) (.map (some c)) := by
  obtain ⟨hp, hq⟩ := h.pure
  obtain ⟨es, clock, hh, h1, h2, h3, h4⟩ := h
  exact .mapr ks vs c es clock hc hh h1 h2 hp hq (fun i k x a b => (h3 i k x a b).mono (h0 := 0) (Ext.frz hW) (fun _ h => absurd rfl h)) (fun i k x a b => (h4 i k x a b).mono (h0 := 0) (Ext.frz hW) (fun _ h => absurd rfl h))

/-- A sealed value is related without own blocks, and to where nothing is written. -/
theorem seal_ok {base : Nat} {Z W' : Nat → Prop} {φ : Place} {H HF : Heap} {w : World} (I : Inv base Z φ HF w) (hle : Le H HF) (hW : ∀ c, W' c → Wr φ HF Z c) {x : V} {v : Value}
    (h : VRel φ (Wr φ HF Z) w x v) : ∀ x' bs, sealV H x = some (x', bs) → (∀ b ∈ bs, ∀ c s n, φ b = .at c s n → ¬ W' c) → VRel pure0 W' w x' v := by
  have frz : ∀ {x : V} {v : Value}, VRel φ (Wr φ HF Z) w x v → pureV x = true → VRel pure0 W' w x v := fun h hp => (h.mono (h0 := HF.length) (Ext.frz hW) (fun _ => I.lt)).toPure hp
  induction h with
  | undef v => intro x' bs hs _; simp only [sealV] at hs; cases hs; exact .undef v
  | bool b => intro x' bs hs _; simp only [sealV] at hs; cases hs; exact .bool b
  | int k n => intro x' bs hs _; simp only [sealV] at hs; cases hs; exact .int k n
  | str s => intro x' bs hs _; simp only [sealV] at hs; cases hs; exact .str s
  | nils => intro x' bs hs _; simp only [sealV] at hs; cases hs; exact .slnil
  | nilm => intro x' bs hs _; simp only [sealV] at hs; cases hs; exact .mapn
  | nilx k v h => intro x' bs hs _; simp only [sealV] at hs; cases hs; exact .nilx k v h
  | agg cs vs hl h1c h ih =>
    intro x' bs hs hb
    simp only [sealV] at hs
    split at hs
    · rename_i cs' bs' h1
      cases hs
      obtain ⟨hl', hh⟩ := sealL_at h1
      refine .agg _ _ (by omega) h1c fun i c v hc hv => ?_
      have hi : i < cs.length := by have := (List.getElem?_eq_some_iff.1 hc).1; omega
      obtain ⟨c', b', e1, e2, e3⟩ := hh i cs[i] (List.getElem?_eq_getElem hi)
      rw [hc] at e2
      cases e2
      exact ih i _ v (List.getElem?_eq_getElem hi) hv _ _ e1 fun b hb' => hb b (e3 b hb')
    · cases hs
  | tuple cs vs hl h ih =>
    intro x' bs hs hb
    simp only [sealV] at hs
    split at hs
    · rename_i cs' bs' h1
      cases hs
      obtain ⟨hl', hh⟩ := sealL_at h1
      refine .tuple _ _ (by omega) fun i c v hc hv => ?_
      have hi : i < cs.length := by have := (List.getElem?_eq_some_iff.1 hc).1; omega
      obtain ⟨c', b', e1, e2, e3⟩ := hh i cs[i] (List.getElem?_eq_getElem hi)
      rw [hc] at e2
      cases e2
      exact ih i _ v (List.getElem?_eq_getElem hi) hv _ _ e1 fun b hb' => hb b (e3 b hb')
    · cases hs
  | sl es a cap s vals hcap h0' hp hs hW' hc hv ih =>
    intro x' bs hs' _
    simp only [sealV] at hs'
    cases hs'
    exact frz (.sl es a cap s vals hcap h0' hp hs hW' hc hv) rfl
  | slnil => intro x' bs hs _; simp only [sealV] at hs; cases hs; exact .slnil
  | own b tot off len v hv1 h0 h1 h2 h3 =>
    intro x' bs hs hb
    simp only [sealV] at hs
    split at hs
    · rename_i wr sz es hx
      split at hs
      · rename_i ht
        cases hs
        rw [take_all ht]
        obtain ⟨wr', hx'⟩ := hle.dat hx
        obtain ⟨h0', hr⟩ := own_read I hx' ht (.own (W := Wr φ HF Z) b tot off len v hv1 h0 h1 h2 h3)
        rcases hr with ⟨_, rfl, rfl, rfl, rfl⟩ | ⟨c, hl, hrow, hg⟩
        · exact .slnil
        · exact sl_of_own hrow ht hg h0' hW (hb b (by simp) c _ tot hl)
      · cases hs
    · cases hs
  | ptr => intro x' bs hs _; simp only [sealV] at hs; cases hs
  | meth => intro x' bs hs _; simp only [sealV] at hs; cases hs
  | view => intro x' bs hs _; simp only [sealV] at hs; cases hs
  | rop => intro x' bs hs _; simp only [sealV] at hs; cases hs
  | mapr ks vs r es clock hW' hh h1 h2 hp hq hk hv ihk ihv =>
    intro x' bs hs _
    simp only [sealV] at hs
    cases hs
    exact frz (.mapr ks vs r es clock hW' hh h1 h2 hp hq hk hv) rfl
  | mapn => intro x' bs hs _; simp only [sealV] at hs; cases hs; exact .mapn
  | map b v hv1 h1 h3 =>
    intro x' bs hs hb
    simp only [sealV] at hs
    split at hs
    · rename_i wr ks vs hx
      cases hs
      obtain ⟨wr', hx'⟩ := hle.map hx
      cases hl : φ b with
      | unborn => exact absurd hl h1
      | nil => obtain ⟨_, _, hn, _⟩ | ⟨_, _, hn, _⟩ := I.nil b hl <;> (rw [hx'] at hn; cases hn)
      | «at» c s n =>
        obtain ⟨y, hy, hr⟩ := I.blk b c s n hl
        rw [hx'] at hy
        cases hy
        obtain ⟨rfl, hr⟩ := hr
        rw [h3 c s 0 hl rfl]
        exact mapr_of hr hW (hb b (by simp) c s 0 hl)
    · cases hs
  | fn => intro x' bs hs _; simp only [sealV] at hs; cases hs

/-- The elements of a slice: as a slice that is only read, nothing being written meanwhile. -/
theorem elems_ok {base : Nat} {Z : Nat → Prop} {φ : Place} {H HF : Heap} {w : World} (I : Inv base Z φ HF w) (hle : Le H HF) {x : V} {v : Value}
    (h : VRel φ (Wr φ HF Z) w x v) {es : List V} (he : elems H x = some es) : VRel pure0 (fun _ => False) w (.sl es) v := by
  cases x with
  | nils => simp only [elems] at he; cases he; cases h; exact .slnil
  | sl es' =>
    simp only [elems] at he
    cases he
    exact (h.mono (h0 := HF.length) (Ext.frz (fun _ h => h.elim)) (fun _ => I.lt)).toPure rfl
  | own b tot off len =>
    have hs : sealV H (.own b tot off len) = some (.sl es, [b]) := by
      simp only [elems] at he
      simp only [sealV]
      split at he
      · rename_i wr sz es' hx
        split at he
        · rename_i ht
          cases he
          simp [ht]
        · cases he
      · cases he
    exact seal_ok I hle (W' := fun _ => False) (fun _ h => h.elim) h _ _ hs (fun _ _ _ _ _ _ h => h)
  | _ => simp [elems] at he

theorem Le.set_dat (H : Heap) (b : Nat) (wr wr' : Bool) (sz : Nat) (es : List V) (h : H[b]? = some (.dat wr sz es)) (hw : wr' = true → wr = true) : Le H (H.set b (.dat wr' sz es)) := by
  refine ⟨by simp, fun i x hx => ?_⟩
  by_cases hi : b = i
  · subst hi
    rw [h] at hx
    cases hx
    exact ⟨.dat wr' sz es, by rw [List.getElem?_set_self (List.getElem?_eq_some_iff.1 h).1], rfl, rfl, hw⟩
  · exact ⟨x, by rw [List.getElem?_set_ne hi]; exact hx, x.le_refl⟩

theorem Le.set_map (H : Heap) (b : Nat) (wr wr' : Bool) (ks vs : List V) (h : H[b]? = some (.map wr ks vs)) (hw : wr' = true → wr = true) : Le H (H.set b (.map wr' ks vs)) := by
  refine ⟨by simp, fun i x hx => ?_⟩
  by_cases hi : b = i
  · subst hi
    rw [h] at hx
    cases hx
    exact ⟨.map wr' ks vs, by rw [List.getElem?_set_self (List.getElem?_eq_some_iff.1 h).1], rfl, rfl, hw⟩
  · exact ⟨x, by rw [List.getElem?_set_ne hi]; exact hx, x.le_refl⟩

theorem freeze_le : ∀ (bs : List Nat) (H : Heap), Le H (freeze H bs)
  | [], H => .refl H
  | b :: bs, H => by
    simp only [freeze]
    refine Le.trans ?_ (freeze_le bs _)
    split
    · rename_i wr sz es hx; exact .set_dat H b wr false sz es hx (by simp)
    · rename_i wr ks vs hx; exact .set_map H b wr false ks vs hx (by simp)
    · exact .refl H

theorem freeze_length (bs : List Nat) : ∀ (H : Heap), (freeze H bs).length = H.length := by
  induction bs with
  | nil => intro H; rfl
  | cons b bs ih =>
    intro H
    simp only [freeze]
    rw [ih]
    split <;> simp

/-- What has been frozen. -/
def Shut (H : Heap) (b : Nat) : Prop := ∀ x, H[b]? = some x → (∃ sz es, x = .dat false sz es) ∨ ∃ ks vs, x = .map false ks vs

theorem Shut.le {H HF : Heap} {b : Nat} (h : Shut H b) (hle : Le H HF) (hb : b < H.length) : Shut HF b := by
  intro y hy
  obtain ⟨z, hz, hl⟩ := hle.2 b H[b] (List.getElem?_eq_getElem hb)
  rw [hy] at hz
  cases hz
  rcases h _ (List.getElem?_eq_getElem hb) with ⟨sz, es, hx⟩ | ⟨ks, vs, hx⟩
  · rw [hx] at hl
    cases y <;> simp only [Blk.le] at hl
    rename_i wr sz' es'
    refine .inl ⟨sz', es', ?_⟩
    cases wr
    · rfl
    · exact absurd (hl.2.2 rfl) (by simp)
  · rw [hx] at hl
    cases y <;> simp only [Blk.le] at hl
    rename_i wr ks' vs'
    refine .inr ⟨ks', vs', ?_⟩
    cases wr
    · rfl
    · exact absurd (hl.2.2 rfl) (by simp)

def notBox (H : Heap) (b : Nat) : Prop := (∃ wr sz es, H[b]? = some (.dat wr sz es)) ∨ ∃ wr ks vs, H[b]? = some (.map wr ks vs)

theorem notBox.lt {H : Heap} {b : Nat} (h : notBox H b) : b < H.length := by
  rcases h with ⟨_, _, _, h⟩ | ⟨_, _, _, h⟩ <;> exact (List.getElem?_eq_some_iff.1 h).1

theorem notBox.le {H HF : Heap} {b : Nat} (h : notBox H b) (hle : Le H HF) : notBox HF b := by
  rcases h with ⟨_, _, _, h⟩ | ⟨_, _, _, h⟩
  · obtain ⟨wr, h'⟩ := hle.dat h; exact .inl ⟨_, _, _, h'⟩
  · obtain ⟨wr, h'⟩ := hle.map h; exact .inr ⟨_, _, _, h'⟩

theorem freeze_shut : ∀ (bs : List Nat) (H : Heap), (∀ b ∈ bs, notBox H b) → ∀ b ∈ bs, Shut (freeze H bs) b
  | [], _, _, b, hb => by cases hb
  | a :: bs, H, h, b, hb => by
    simp only [freeze]
    have step : Le H (match H[a]? with
      | some (.dat _ sz es) => H.set a (.dat false sz es)
      | some (.map _ ks vs) => H.set a (.map false ks vs)
      | _ => H) := by
      split
      · rename_i wr sz es hx; exact .set_dat H a wr false sz es hx (by simp)
      · rename_i wr ks vs hx; exact .set_map H a wr false ks vs hx (by simp)
      · exact .refl H
    rcases List.mem_cons.1 hb with rfl | hb'
    · refine Shut.le ?_ (freeze_le bs _) ?_
      · rcases h b (by simp) with ⟨wr, sz, es, hx⟩ | ⟨wr, ks, vs, hx⟩
        · simp only [hx]
          intro y hy
          rw [List.getElem?_set_self (List.getElem?_eq_some_iff.1 hx).1] at hy
          cases hy
          exact .inl ⟨sz, es, rfl⟩
        · simp only [hx]
          intro y hy
          rw [List.getElem?_set_self (List.getElem?_eq_some_iff.1 hx).1] at hy
          cases hy
          exact .inr ⟨ks, vs, rfl⟩
      · exact Nat.lt_of_lt_of_le (h b (by simp)).lt step.1
    · exact freeze_shut bs _ (fun c hc => (h c (by simp [hc])).le step) b hb'

mutual
theorem seal_notBox {H : Heap} : ∀ {x x' : V} {bs : List Nat}, sealV H x = some (x', bs) → ∀ b ∈ bs, notBox H b
  | .own b tot off len, x', bs, h, c, hc => by
    simp only [sealV] at h
    split at h
    · rename_i wr sz es hx
      split at h
      · cases h; simp at hc; subst hc; exact .inl ⟨_, _, _, hx⟩
      · cases h
    · cases h
  | .map b, x', bs, h, c, hc => by
    simp only [sealV] at h
    split at h
    · rename_i wr ks vs hx; cases h; simp at hc; subst hc; exact .inr ⟨_, _, _, hx⟩
    · cases h
  | .agg cs, x', bs, h, c, hc => by
    simp only [sealV] at h
    split at h
    · rename_i cs' bs' h1; cases h; exact sealL_notBox h1 c hc
    · cases h
  | .tuple cs, x', bs, h, c, hc => by
    simp only [sealV] at h
    split at h
    · rename_i cs' bs' h1; cases h; exact sealL_notBox h1 c hc
    · cases h
  | .ptr .., _, _, h, _, _ | .rop _, _, _, h, _, _ | .fn .., _, _, h, _, _ | .meth .., _, _, h, _, _ | .view .., _, _, h, _, _ => by simp only [sealV] at h; cases h
  | .undef, _, _, h, _, hc | .bool _, _, _, h, _, hc | .int .., _, _, h, _, hc | .str _, _, _, h, _, hc | .nils, _, _, h, _, hc | .nilm, _, _, h, _, hc | .nilx _, _, _, h, _, hc | .sl _, _, _, h, _, hc | .mapr .., _, _, h, _, hc => by
    simp only [sealV] at h; cases h; cases hc
theorem sealL_notBox {H : Heap} : ∀ {cs cs' : List V} {bs : List Nat}, sealL H cs = some (cs', bs) → ∀ b ∈ bs, notBox H b
  | [], cs', bs, h, c, hc => by simp only [sealL] at h; cases h; cases hc
  | d :: cs, cs', bs, h, c, hc => by
    simp only [sealL] at h
    split at h
    · rename_i c1 b1 cs1 bs1 h1 h2
      cases h
      rcases List.mem_append.1 hc with hc | hc
      · exact seal_notBox h1 c hc
      · exact sealL_notBox h2 c hc
    · cases h
end

/-- What has been frozen isn't among what may be written. -/
theorem Inv.shut {base : Nat} {Z : Nat → Prop} {φ : Place} {H : Heap} {w : World} (I : Inv base Z φ H w) {b c s n : Nat} (h : Shut H b) (hl : φ b = .at c s n) : ¬ Wr φ H Z c := by
  rintro (hz | ⟨b', s', n', x, h1, h2, h3⟩)
  · have := I.hz c hz
    have := (I.rng _ _ _ _ hl).1
    omega
  · have := I.inj _ _ _ _ _ _ _ hl h1
    subst this
    rcases h _ h2 with ⟨sz, es, rfl⟩ | ⟨ks, vs, rfl⟩ <;> simp [Blk.wr] at h3

end Go.Abs

