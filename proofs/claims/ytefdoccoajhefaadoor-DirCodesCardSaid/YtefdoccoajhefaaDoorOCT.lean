/- Proved here: what functions of the program compute, over the evaluator. No condition but those that each theorem states. -/
import Derived.Test.YtefdoccoajhefaaDoorE1
namespace Go.Abs
open Go.Proofs
set_option maxRecDepth 100000
set_option linter.unusedSimpArgs false
set_option linter.unusedVariables false

/-- Two bytes as a whole number. -/
def word (x y : UInt8) : Int := (x.toNat : Int) + 256 * y.toNat
@[simp] theorem wrap_byte (b : UInt8) : IntKind.i64.wrap (b.toNat : Int) = b.toNat := wrap_id (by omega) (by have := b.toNat_lt; omega)
@[simp] theorem wrap_byte256 (b : UInt8) : IntKind.i64.wrap ((b.toNat : Int) * 256) = b.toNat * 256 := wrap_id (by omega) (by have := b.toNat_lt; omega)
theorem or_nat (x y : Nat) (hx : x < 256) : x ||| y * 256 = x + 256 * y := by
  have := Nat.two_pow_add_eq_or_of_lt (i := 8) (b := x) (by omega) y
  rw [show (2 : Nat) ^ 8 = 256 from rfl] at this
  rw [Nat.or_comm, Nat.mul_comm y 256]
  omega
theorem or_bytes (x y : UInt8) : intOp .or .i64 (x.toNat : Int) ((y.toNat : Int) * 256) = some (.int .i64 (word x y)) := by
  have hx := x.toNat_lt
  have hy := y.toNat_lt
  show some (V.int .i64 (IntKind.i64.wrap ((BitVec.ofInt 64 (x.toNat : Int) ||| BitVec.ofInt 64 ((y.toNat : Int) * 256)).toNat : Int))) = _
  rw [BitVec.toNat_or, BitVec.toNat_ofInt, BitVec.toNat_ofInt]
  have e1 : ((x.toNat : Int) % (2 ^ 64 : Nat)).toNat = x.toNat := by omega
  have e2 : (((y.toNat : Int) * 256) % (2 ^ 64 : Nat)).toNat = y.toNat * 256 := by omega
  rw [e1, e2, or_nat _ _ hx, wrap_id (by omega) (by omega)]
  unfold word
  congr 2

theorem GetR_eq (s : List UInt8) (i : Nat) (h : i + 2 ≤ s.length) (hs : s.length ≤ 1000000) :
    bodyW DC 36 [.str s, .int .i64 i, .int .i64 2] [] = some (.tuple [.int .i64 (word (s[i]'(by omega)) (s[i + 1]'(by omega))), .int .i64 ((i : Int) + 2), .int .i64 0], []) := by
  have h0 : i < s.length := by omega
  have h1 : i + 1 < s.length := by omega
  generalize hx : s[i]'h0 = x
  generalize hy : s[i + 1]'h1 = y
  have g0 : s[i]? = some x := by rw [List.getElem?_eq_getElem h0, hx]
  have g1 : s[i + 1]? = some y := by rw [List.getElem?_eq_getElem h1, hy]
  have bx := x.toNat_lt
  have by_ := y.toNat_lt
  have a1 : IntKind.i64.wrap ((i : Int) + 2) = i + 2 := wrap_id (by omega) (by omega)
  have a2 : IntKind.i64.wrap ((i : Int) + 2 - 1) = i + 1 := by rw [wrap_id (by omega) (by omega)]; omega
  have a10 : IntKind.i64.wrap ((i : Int) + 1 - 1) = i := by rw [wrap_id (by omega) (by omega)]; omega
  have a3 : IntKind.i64.wrap ((i : Int) + 1) = i + 1 := wrap_id (by omega) (by omega)
  have a4 : IntKind.i64.wrap (i : Int) = i := wrap_id (by omega) (by omega)
  have a5 : IntKind.i64.wrap ((i : Int) - 1) = i - 1 := wrap_id (by omega) (by omega)
  have a6 : IntKind.i64.wrap ((s.length : Int) - i) = s.length - i := wrap_id (by omega) (by omega)
  have a7 : ¬ ((s.length : Int) - i < 2) := by omega
  have a8 : ¬ ((s.length : Int) < i) := by omega
  have a8' : ¬ (s.length < i) := by omega
  have a9 : ((i : Int) + 1).toNat = i + 1 := by omega
  have c1 : (0 : Int) ≤ (i : Int) + 1 := by omega
  have c2 : (i : Int) ≤ (i : Int) + 1 := by omega
  have c3 : ¬ ((i : Int) ≤ (i : Int) - 1) := by omega
  have d1 : IntKind.i64.wrap (256 * (y.toNat : Int)) = 256 * y.toNat := wrap_id (by omega) (by omega)
  have d2 : IntKind.i64.wrap (256 * (y.toNat : Int) + x.toNat) = word x y := by unfold word; rw [wrap_id (by omega) (by omega)]; omega
  have d3 : ¬ ((i : Int) < 0) := by omega
  (refine gives_iff ?_; refine go_func Tryd.f36 rfl rfl (by simp [Tryd.f36]) ?_; dsimp only [codeL, Tryd.f36, scL, sopsL, guardL, dstAt, loopKey])
  (repeat (first
    | (apply is_ok; (case hw => simp [a1, a2, a10, a3, a4, a5, a6, a7, a8, a8', a9, c1, c2, c3, d1, d2, d3, g0, g1, h0, h1, hx, hy]); (case he => simp [a1, a2, a10, a3, a4, a5, a6, a7, a8, a8', a9, c1, c2, c3, d1, d2, d3, g0, g1, h0, h1, hx, hy]; exact is_rfl))
    | (apply op_no; (case hw => simp [a1, a2, a10, a3, a4, a5, a6, a7, a8, a8', a9, c1, c2, c3, d1, d2, d3, g0, g1, h0, h1, hx, hy]))
    | refine op_nil ?_ | refine next_normal ?_ | refine go_seq ?_ | refine go_region ?_ | refine go_skip ?_ | refine go_block ?_ | refine inb_normal ?_
    | (apply go_yes; (case hc => simp [a1, a2, a10, a3, a4, a5, a6, a7, a8, a8', a9, c1, c2, c3, d1, d2, d3, g0, g1, h0, h1, hx, hy])) | (apply go_no; (case hc => simp [a1, a2, a10, a3, a4, a5, a6, a7, a8, a8', a9, c1, c2, c3, d1, d2, d3, g0, g1, h0, h1, hx, hy]))
    | refine go_exit ?_ | refine next_exit ?_ | refine inb_here ?_ | refine inb_past (by decide) ?_ | refine go_ret ?_ | refine next_ret ?_ | refine inb_ret ?_
    | (apply go_unroll; (case hh => simp [a1, a2, a10, a3, a4, a5, a6, a7, a8, a8', a9, c1, c2, c3, d1, d2, d3, g0, g1, h0, h1, hx, hy]; exact is_rfl))))
  (apply ends_ok; (case h1 => simp; exact is_rfl); (case h2 => simp; exact is_rfl))
  simp [d2]
theorem Get_eq (s : List UInt8) (i : Nat) (h : i + 2 ≤ s.length) (hs : s.length ≤ 1000000) :
    bodyW DC 34 [.str s, .int .i64 i, .int .i64 2] [] = some (.tuple [.int .i64 (word (s[i]'(by omega)) (s[i + 1]'(by omega))), .int .i64 ((i : Int) + 2), .int .i64 0], []) := by
  have h0 : i < s.length := by omega
  have h1 : i + 1 < s.length := by omega
  generalize hx : s[i]'h0 = x
  generalize hy : s[i + 1]'h1 = y
  have g0 : s[i]? = some x := by rw [List.getElem?_eq_getElem h0, hx]
  have g1 : s[i + 1]? = some y := by rw [List.getElem?_eq_getElem h1, hy]
  have bx := x.toNat_lt
  have by_ := y.toNat_lt
  have a1 : IntKind.i64.wrap ((i : Int) + 2) = i + 2 := wrap_id (by omega) (by omega)
  have a3 : IntKind.i64.wrap ((i : Int) + 1) = i + 1 := wrap_id (by omega) (by omega)
  have a4 : IntKind.i64.wrap (i : Int) = i := wrap_id (by omega) (by omega)
  have a6 : IntKind.i64.wrap ((s.length : Int) - i) = s.length - i := wrap_id (by omega) (by omega)
  have a7 : ¬ ((s.length : Int) - i < 2) := by omega
  have a8 : ¬ ((s.length : Int) < i) := by omega
  have a8' : ¬ (s.length < i) := by omega
  have a9 : ((i : Int) + 1).toNat = i + 1 := by omega
  have c1 : (0 : Int) ≤ (i : Int) + 1 := by omega
  have d1 : IntKind.i64.wrap ((y.toNat : Int) * 256) = y.toNat * 256 := wrap_byte256 y
  have d2 : intOp .or .i64 0 (y.toNat : Int) = some (.int .i64 y.toNat) := by
    show some (V.int .i64 (IntKind.i64.wrap ((BitVec.ofInt 64 0 ||| BitVec.ofInt 64 (y.toNat : Int)).toNat : Int))) = _
    rw [show BitVec.ofInt 64 0 = 0#64 from rfl, BitVec.zero_or, BitVec.toNat_ofInt]
    have e1 : ((y.toNat : Int) % (2 ^ 64 : Nat)).toNat = y.toNat := by omega
    rw [e1, wrap_byte]
  have d4 : intOp .or .i64 ((y.toNat : Int) * 256) (x.toNat : Int) = some (.int .i64 (word x y)) := by
    rw [← or_bytes x y]
    show some (V.int .i64 (IntKind.i64.wrap ((BitVec.ofInt 64 ((y.toNat : Int) * 256) ||| BitVec.ofInt 64 (x.toNat : Int)).toNat : Int))) = some (V.int .i64 (IntKind.i64.wrap ((BitVec.ofInt 64 (x.toNat : Int) ||| BitVec.ofInt 64 ((y.toNat : Int) * 256)).toNat : Int)))
    rw [BitVec.or_comm]
  have d3 : ¬ ((i : Int) < 0) := by omega
  (refine gives_iff ?_; refine go_func Tryd.f34 rfl rfl (by simp [Tryd.f34]) ?_; dsimp only [codeL, Tryd.f34, scL, sopsL, guardL, dstAt, loopKey])
  (repeat (first
    | (apply is_ok; (case hw => simp [-intOp, a1, a3, a4, a6, a7, a8, a8', a9, c1, d1, d2, d3, d4, g0, g1, h0, h1, hx, hy]); (case he => simp [-intOp, a1, a3, a4, a6, a7, a8, a8', a9, c1, d1, d2, d3, d4, g0, g1, h0, h1, hx, hy]; exact is_rfl))
    | (apply op_no; (case hw => simp [-intOp, a1, a3, a4, a6, a7, a8, a8', a9, c1, d1, d2, d3, d4, g0, g1, h0, h1, hx, hy]))
    | refine op_nil ?_ | refine next_normal ?_ | refine go_seq ?_ | refine go_region ?_ | refine go_skip ?_ | refine go_block ?_ | refine inb_normal ?_
    | (apply go_yes; (case hc => simp [-intOp, a1, a3, a4, a6, a7, a8, a8', a9, c1, d1, d2, d3, d4, g0, g1, h0, h1, hx, hy])) | (apply go_no; (case hc => simp [-intOp, a1, a3, a4, a6, a7, a8, a8', a9, c1, d1, d2, d3, d4, g0, g1, h0, h1, hx, hy]))
    | refine go_exit ?_ | refine next_exit ?_ | refine inb_here ?_ | refine inb_past (by decide) ?_ | refine go_ret ?_ | refine next_ret ?_ | refine inb_ret ?_
    | (apply go_unroll; (case hh => simp [-intOp, a1, a3, a4, a6, a7, a8, a8', a9, c1, d1, d2, d3, d4, g0, g1, h0, h1, hx, hy]; exact is_rfl))))
  (apply ends_ok; (case h1 => simp; exact is_rfl); (case h2 => simp; exact is_rfl))
  simp

end Go.Abs
