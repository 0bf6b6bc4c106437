/- Proved here: what functions of the program compute, over the evaluator. No condition but those that each theorem states. -/
import Derived.Test.YtpffmpllnpmkbaaE1
namespace Go.Abs
open Go.Proofs
set_option maxRecDepth 100000
set_option linter.unusedSimpArgs false
set_option linter.unusedVariables false

abbrev inoV (k l z : Int) (L : List Int) : V := .agg (.int .i64 k :: .int .i64 l :: .int .i64 z :: ints L)
@[simp] theorem put2_length (n : Int) : (put2 n).length = 2 := rfl
def bytesI (k l z : Int) (L : List Int) : List UInt8 := put2 k ++ (put2 l ++ (put2 z ++ (L.flatMap put2 ++ List.replicate 10 0)))
/-- Numbers of 64 bits. -/
def In64 (L : List Int) : Prop := ∀ x ∈ L, -9223372036854775808 ≤ x ∧ x ≤ 9223372036854775807

theorem Bytes_eq (k l z : Int) (L : List Int) (hL : L.length = 8) (hX : In64 (k :: l :: z :: L)) : bodyW DC 13 [inoV k l z L] [] = some (.str (bytesI k l z L), []) := by
  match L, hL with
  | [a, b, c, d, e, f, g, h], _ =>
    have b1 := (hX k (by simp)).2
    have b2 := (hX l (by simp)).2
    have b3 := (hX z (by simp)).2
    have b4 := (hX a (by simp)).2
    have b5 := (hX b (by simp)).2
    have b6 := (hX c (by simp)).2
    have b7 := (hX d (by simp)).2
    have b8 := (hX e (by simp)).2
    have b9 := (hX f (by simp)).2
    have c1 := (hX g (by simp)).2
    have c2 := (hX h (by simp)).2
    clear hX
    (refine gives_iff ?_; refine go_func Try.f13 rfl rfl (by simp [Try.f13]) ?_; dsimp only [codeL, Try.f13, scL, sopsL, guardL, dstAt, loopKey])
    (repeat (first
    | (apply is_ok; (case hw => simp [Put_eq, b1, b2, b3, b4, b5, b6, b7, b8, b9, c1, c2, room]); (case he => simp [Put_eq, b1, b2, b3, b4, b5, b6, b7, b8, b9, c1, c2, room]; exact is_rfl))
    | (apply op_no; (case hw => simp [Put_eq, b1, b2, b3, b4, b5, b6, b7, b8, b9, c1, c2, room]))
    | refine op_nil ?_ | refine next_normal ?_ | refine go_seq ?_ | refine go_region ?_ | refine go_skip ?_ | refine go_block ?_ | refine inb_normal ?_
    | (apply go_yes; (case hc => simp [Put_eq, b1, b2, b3, b4, b5, b6, b7, b8, b9, c1, c2, room])) | (apply go_no; (case hc => simp [Put_eq, b1, b2, b3, b4, b5, b6, b7, b8, b9, c1, c2, room]))
    | refine go_exit ?_ | refine next_exit ?_ | refine inb_here ?_ | refine inb_past (by decide) ?_ | refine go_ret ?_ | refine next_ret ?_ | refine inb_ret ?_
    | (apply go_unroll; (case hh => simp [Put_eq, b1, b2, b3, b4, b5, b6, b7, b8, b9, c1, c2, room]; exact is_rfl))))
    (apply ends_ok; (case h1 => simp; exact is_rfl); (case h2 => simp; exact is_rfl))
    simp [bytesI]

theorem BytesR_eq (k l z : Int) (L : List Int) (hL : L.length = 8) (hX : In64 (k :: l :: z :: L)) : bodyW DC 14 [inoV k l z L] [] = some (.str (bytesI k l z L), []) := by
  match L, hL with
  | [a, b, c, d, e, f, g, h], _ =>
    have b1 := (hX k (by simp)).2
    have b2 := (hX l (by simp)).2
    have b3 := (hX z (by simp)).2
    have b4 := (hX a (by simp)).2
    have b5 := (hX b (by simp)).2
    have b6 := (hX c (by simp)).2
    have b7 := (hX d (by simp)).2
    have b8 := (hX e (by simp)).2
    have b9 := (hX f (by simp)).2
    have c1 := (hX g (by simp)).2
    have c2 := (hX h (by simp)).2
    clear hX
    (refine gives_iff ?_; refine go_func Try.f14 rfl rfl (by simp [Try.f14]) ?_; dsimp only [codeL, Try.f14, scL, sopsL, guardL, dstAt, loopKey])
    (repeat (first
    | (apply is_ok; (case hw => simp [PutR_eq, b1, b2, b3, b4, b5, b6, b7, b8, b9, c1, c2, room]); (case he => simp [PutR_eq, b1, b2, b3, b4, b5, b6, b7, b8, b9, c1, c2, room]; exact is_rfl))
    | (apply op_no; (case hw => simp [PutR_eq, b1, b2, b3, b4, b5, b6, b7, b8, b9, c1, c2, room]))
    | refine op_nil ?_ | refine next_normal ?_ | refine go_seq ?_ | refine go_region ?_ | refine go_skip ?_ | refine go_block ?_ | refine inb_normal ?_
    | (apply go_yes; (case hc => simp [PutR_eq, b1, b2, b3, b4, b5, b6, b7, b8, b9, c1, c2, room])) | (apply go_no; (case hc => simp [PutR_eq, b1, b2, b3, b4, b5, b6, b7, b8, b9, c1, c2, room]))
    | refine go_exit ?_ | refine next_exit ?_ | refine inb_here ?_ | refine inb_past (by decide) ?_ | refine go_ret ?_ | refine next_ret ?_ | refine inb_ret ?_
    | (apply go_unroll; (case hh => simp [PutR_eq, b1, b2, b3, b4, b5, b6, b7, b8, b9, c1, c2, room]; exact is_rfl))))
    (apply ends_ok; (case h1 => simp; exact is_rfl); (case h2 => simp; exact is_rfl))
    simp [bytesI]

end Go.Abs
