/- Proved here: what functions of the program compute, over the evaluator. No condition but those that each theorem states. -/
import Derived.Test.YtbnnaaadblpgiaaD8
namespace Go.Abs
open Go.Proofs
set_option maxRecDepth 100000
set_option linter.unusedSimpArgs false

theorem Write_ok (S : List (List UInt8)) (B : List Int) (hS : S.length ≤ 1000000) (hB : B.length ≤ 1000000) (w : Int × List UInt8) (h : faultI S.length B w = 0) :
    bodyW DC 8 [drv S B, .int .i64 w.1, .str w.2] [] = some (.tuple [.agg [.own 0 S.length 0 S.length, .own 1 B.length 0 B.length], .int .i64 0], [.dat true 1 (strs (putS S w)), .dat true 1 (ints B)]) := by
  have hA := Apply_eq S B hS hB [w] (by simp) (-1)
  simp only [List.map_cons, List.map_nil, applyS, h] at hA
  (refine gives_iff ?_; refine go_func Try.f8 rfl rfl (by simp [Try.f8]) ?_; dsimp only [codeL, Try.f8, scL, sopsL, guardL, dstAt, loopKey])
  (repeat (first
    | (apply is_ok; (case hw => simp [hA]); (case he => simp [hA]; exact is_rfl))
    | (apply op_no; (case hw => simp [hA]))
    | refine op_nil ?_ | refine next_normal ?_ | refine go_seq ?_ | refine go_region ?_ | refine go_skip ?_ | refine go_block ?_ | refine inb_normal ?_
    | (apply go_yes; (case hc => simp [hA])) | (apply go_no; (case hc => simp [hA]))
    | refine go_exit ?_ | refine next_exit ?_ | refine inb_here ?_ | refine inb_past (by decide) ?_ | refine go_ret ?_ | refine next_ret ?_ | refine inb_ret ?_))
  (apply ends_ok; (case h1 => simp; exact is_rfl); (case h2 => simp; exact is_rfl))
  simp [putS]

theorem Write_no (S : List (List UInt8)) (B : List Int) (hS : S.length ≤ 1000000) (hB : B.length ≤ 1000000) (w : Int × List UInt8) (h : faultI S.length B w ≠ 0) :
    bodyW DC 8 [drv S B, .int .i64 w.1, .str w.2] [] = some (.tuple [.agg [.nils, .nils], .int .i64 (faultI S.length B w)], []) := by
  have hA := Apply_eq S B hS hB [w] (by simp) (-1)
  simp only [List.map_cons, List.map_nil, applyS, h] at hA
  (refine gives_iff ?_; refine go_func Try.f8 rfl rfl (by simp [Try.f8]) ?_; dsimp only [codeL, Try.f8, scL, sopsL, guardL, dstAt, loopKey])
  (repeat (first
    | (apply is_ok; (case hw => simp [hA, h]); (case he => simp [hA, h]; exact is_rfl))
    | (apply op_no; (case hw => simp [hA, h]))
    | refine op_nil ?_ | refine next_normal ?_ | refine go_seq ?_ | refine go_region ?_ | refine go_skip ?_ | refine go_block ?_ | refine inb_normal ?_
    | (apply go_yes; (case hc => simp [hA, h])) | (apply go_no; (case hc => simp [hA, h]))
    | refine go_exit ?_ | refine next_exit ?_ | refine inb_here ?_ | refine inb_past (by decide) ?_ | refine go_ret ?_ | refine next_ret ?_ | refine inb_ret ?_))
  (apply ends_ok; (case h1 => simp; exact is_rfl); (case h2 => simp; exact is_rfl))
  simp

theorem putS_length {S : List (List UInt8)} {w : Int × List UInt8} : (putS S w).length = S.length := by simp [putS]

end Go.Abs
