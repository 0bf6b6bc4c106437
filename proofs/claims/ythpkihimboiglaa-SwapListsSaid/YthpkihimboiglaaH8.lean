/- Proved here: what functions of the program compute, over the evaluator. No condition but those that each theorem states. -/
import Derived.Test.YthpkihimboiglaaH7
namespace Go.Abs
open Go.Proofs
set_option maxRecDepth 100000
set_option linter.unusedSimpArgs false
set_option linter.unusedVariables false

/-- The sectors of an image. -/
def secN (n : Int) : Int := if n < 1 then 0 else n / 2 + n % 2
theorem Sectors_eq (n : Int) (hn : -9223372036854775808 ≤ n ∧ n ≤ 9223372036854775807) : bodyW DC 13 [.int .i64 n] [] = some (.int .i64 (secN n), []) := by
  unfold secN
  by_cases h1 : n < 1
  · rw [if_pos h1]
    have e : max n 0 = 0 := by omega
    (refine gives_iff ?_; refine go_func Try.f13 rfl rfl (by simp [Try.f13]) ?_; dsimp only [codeL, Try.f13, scL, sopsL, guardL, dstAt, loopKey])
    (repeat (first
    | (apply is_ok; (case hw => simp [e]); (case he => simp [e]; exact is_rfl))
    | (apply op_no; (case hw => simp [e]))
    | refine op_nil ?_ | refine next_normal ?_ | refine go_seq ?_ | refine go_region ?_ | refine go_skip ?_ | refine go_block ?_ | refine inb_normal ?_
    | (apply go_yes; (case hc => simp [e])) | (apply go_no; (case hc => simp [e]))
    | refine go_exit ?_ | refine next_exit ?_ | refine inb_here ?_ | refine inb_past (by decide) ?_ | refine go_ret ?_ | refine next_ret ?_ | refine inb_ret ?_))
    (apply ends_ok; (case h1 => simp; exact is_rfl); (case h2 => simp; exact is_rfl))
    simp
  · rw [if_neg h1]
    have e : max n 0 = n := by omega
    have q1 : n.tdiv 2 = n / 2 := Int.tdiv_eq_ediv_of_nonneg (by omega)
    have q2 : n.tmod 2 = n % 2 := Int.tmod_eq_emod_of_nonneg (by omega)
    have w1 : IntKind.i64.wrap (n / 2) = n / 2 := wrap_id (by omega) (by omega)
    have w2 : IntKind.i64.wrap (n / 2 + n % 2) = n / 2 + n % 2 := wrap_id (by omega) (by omega)
    (refine gives_iff ?_; refine go_func Try.f13 rfl rfl (by simp [Try.f13]) ?_; dsimp only [codeL, Try.f13, scL, sopsL, guardL, dstAt, loopKey])
    (repeat (first
    | (apply is_ok; (case hw => simp [e, q1, q2, w1, w2]); (case he => simp [e, q1, q2, w1, w2]; exact is_rfl))
    | (apply op_no; (case hw => simp [e, q1, q2, w1, w2]))
    | refine op_nil ?_ | refine next_normal ?_ | refine go_seq ?_ | refine go_region ?_ | refine go_skip ?_ | refine go_block ?_ | refine inb_normal ?_
    | (apply go_yes; (case hc => simp [e, q1, q2, w1, w2])) | (apply go_no; (case hc => simp [e, q1, q2, w1, w2]))
    | refine go_exit ?_ | refine next_exit ?_ | refine inb_here ?_ | refine inb_past (by decide) ?_ | refine go_ret ?_ | refine next_ret ?_ | refine inb_ret ?_))
    (apply ends_ok; (case h1 => simp; exact is_rfl); (case h2 => simp; exact is_rfl))
    simp
theorem SectorsR_eq (n : Int) (hn : -9223372036854775808 ≤ n ∧ n ≤ 9223372036854775807) : bodyW DC 14 [.int .i64 n] [] = some (.int .i64 (secN n), []) := by
  unfold secN
  by_cases h1 : n < 1
  · rw [if_pos h1]
    (refine gives_iff ?_; refine go_func Try.f14 rfl rfl (by simp [Try.f14]) ?_; dsimp only [codeL, Try.f14, scL, sopsL, guardL, dstAt, loopKey])
    (repeat (first
    | (apply is_ok; (case hw => simp [h1]); (case he => simp [h1]; exact is_rfl))
    | (apply op_no; (case hw => simp [h1]))
    | refine op_nil ?_ | refine next_normal ?_ | refine go_seq ?_ | refine go_region ?_ | refine go_skip ?_ | refine go_block ?_ | refine inb_normal ?_
    | (apply go_yes; (case hc => simp [h1])) | (apply go_no; (case hc => simp [h1]))
    | refine go_exit ?_ | refine next_exit ?_ | refine inb_here ?_ | refine inb_past (by decide) ?_ | refine go_ret ?_ | refine next_ret ?_ | refine inb_ret ?_))
    (apply ends_ok; (case h1 => simp; exact is_rfl); (case h2 => simp; exact is_rfl))
    simp
  · rw [if_neg h1]
    have q1 : n.tdiv 2 = n / 2 := Int.tdiv_eq_ediv_of_nonneg (by omega)
    have q2 : n.tmod 2 = n % 2 := Int.tmod_eq_emod_of_nonneg (by omega)
    have w1 : IntKind.i64.wrap (n / 2) = n / 2 := wrap_id (by omega) (by omega)
    have w2 : IntKind.i64.wrap (n / 2 + n % 2) = n / 2 + n % 2 := wrap_id (by omega) (by omega)
    (refine gives_iff ?_; refine go_func Try.f14 rfl rfl (by simp [Try.f14]) ?_; dsimp only [codeL, Try.f14, scL, sopsL, guardL, dstAt, loopKey])
    (repeat (first
    | (apply is_ok; (case hw => simp [h1, q1, q2, w1, w2]); (case he => simp [h1, q1, q2, w1, w2]; exact is_rfl))
    | (apply op_no; (case hw => simp [h1, q1, q2, w1, w2]))
    | refine op_nil ?_ | refine next_normal ?_ | refine go_seq ?_ | refine go_region ?_ | refine go_skip ?_ | refine go_block ?_ | refine inb_normal ?_
    | (apply go_yes; (case hc => simp [h1, q1, q2, w1, w2])) | (apply go_no; (case hc => simp [h1, q1, q2, w1, w2]))
    | refine go_exit ?_ | refine next_exit ?_ | refine inb_here ?_ | refine inb_past (by decide) ?_ | refine go_ret ?_ | refine next_ret ?_ | refine inb_ret ?_))
    (apply ends_ok; (case h1 => simp; exact is_rfl); (case h2 => simp; exact is_rfl))
    simp
end Go.Abs
