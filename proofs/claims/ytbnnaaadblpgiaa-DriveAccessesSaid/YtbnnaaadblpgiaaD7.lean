/- Proved here: what functions of the program compute, over the evaluator. No condition but those that each theorem states. -/
import Derived.Test.YtbnnaaadblpgiaaD6
namespace Go.Abs
open Go.Proofs
set_option maxRecDepth 100000
set_option linter.unusedSimpArgs false

theorem copied_eq (S : List (List UInt8)) (B : List Int) (hS : S.length ≤ 1000000) (hB : B.length ≤ 1000000) : bodyW DC 22 [drv S B] [] = some (.agg [.own 0 S.length 0 S.length, .own 1 B.length 0 B.length], [.dat true 1 (strs S), .dat true 1 (ints B)]) := by
  have r1 : S.length * 16 ≤ room := by unfold room; omega
  have r2 : S.length ≤ room := by unfold room; omega
  have r3 : B.length * 8 ≤ room := by unfold room; omega
  have r4 : B.length ≤ room := by unfold room; omega
  (refine gives_iff ?_; refine go_func Try.f22 rfl rfl (by simp [Try.f22]) ?_; dsimp only [codeL, Try.f22, scL, sopsL, guardL, dstAt, loopKey])
  (repeat (first
    | (apply is_ok; (case hw => simp [cloneX, r1, r2, r3, r4]); (case he => simp [cloneX, r1, r2, r3, r4]; exact is_rfl))
    | (apply op_no; (case hw => simp [cloneX, r1, r2, r3, r4]))
    | refine op_nil ?_ | refine next_normal ?_ | refine go_seq ?_ | refine go_region ?_ | refine go_skip ?_ | refine go_block ?_ | refine inb_normal ?_
    | (apply go_yes; (case hc => simp [cloneX, r1, r2, r3, r4])) | (apply go_no; (case hc => simp [cloneX, r1, r2, r3, r4]))
    | refine go_exit ?_ | refine next_exit ?_ | refine inb_here ?_ | refine inb_past (by decide) ?_ | refine go_ret ?_ | refine next_ret ?_ | refine inb_ret ?_))
  (apply ends_ok; (case h1 => simp; exact is_rfl); (case h2 => simp; exact is_rfl))
  simp
end Go.Abs
