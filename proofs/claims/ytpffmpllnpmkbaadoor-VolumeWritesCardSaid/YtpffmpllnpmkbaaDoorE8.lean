/- Proved here: what functions of the program compute, over the evaluator. No condition but those that each theorem states. -/
import Derived.Test.YtpffmpllnpmkbaaDoorE7
import Derived.Test.YtpffmpllnpmkbaaDoorD5
namespace Go.Abs
open Go.Proofs
set_option maxRecDepth 100000
set_option linter.unusedSimpArgs false
set_option linter.unusedVariables false

@[simp] theorem sealL_ints (H : Heap) (k : IntKind) (L : List Int) : sealL H (L.map (V.int k)) = some (L.map (V.int k), []) := by
  induction L with
  | nil => rfl
  | cons a L ih => simp [ih]
@[simp] theorem sealL_strs (H : Heap) (L : List (List UInt8)) : sealL H (L.map V.str) = some (L.map V.str, []) := by
  induction L with
  | nil => rfl
  | cons a L ih => simp [ih]

section
variable {P : Program}
@[simp] theorem binV_ii (op : BinOp) (t : TypeId) (k k' : IntKind) (a b : Int) : binV P op t (.int k a) (.int k' b) = if isShift op then shiftOp op k a b else if k = k' then intOp op k a b else none := rfl
@[simp] theorem binV_ss (op : BinOp) (t : TypeId) (a b : List UInt8) : binV P op t (.str a) (.str b) = strOp op a b := rfl
@[simp] theorem binV_bb (op : BinOp) (t : TypeId) (a b : Bool) : binV P op t (.bool a) (.bool b) = if P.underlying t matches some .bool then match op with
    | .eql => some (.bool (a == b))
    | .neq => some (.bool (!(a == b)))
    | _ => none
    else none := rfl
end

/-- The value of an encoding, its cells told. -/
theorem parseV_shape (s : List UInt8) : ∃ k l z a b c d e f g h, parseV s = .agg [.int .i64 k, .int .i64 l, .int .i64 z, .int .i64 a, .int .i64 b, .int .i64 c, .int .i64 d, .int .i64 e, .int .i64 f, .int .i64 g, .int .i64 h] ∧ In64 [k, l, z, a, b, c, d, e, f, g, h] := by
  unfold parseV
  split
  · exact ⟨_, _, _, _, _, _, _, _, _, _, _, rfl, in64_wd s⟩
  · exact ⟨0, 0, 0, 0, 0, 0, 0, 0, 0, 0, 0, rfl, by intro x hx; simp at hx; omega⟩
end Go.Abs
