/- Proved here: what functions of the program compute, over the evaluator. No condition but those that each theorem states. -/
import Derived.Test.YthpkihimboiglaaH11
import Derived.Test.YthpkihimboiglaaSYO
import Derived.Test.YthpkihimboiglaaH1
namespace Go.Abs
open Go.Proofs
set_option maxRecDepth 100000
set_option linter.unusedSimpArgs false
set_option linter.unusedVariables false

theorem SwapLists_eq (s : Sys) (hs : s.Wf) (n : Int) (hn : (Lit.int .i64 n).wf = true) : bodyW DC 4 [.agg s.cells, .int .i64 n] [] = some (.bool true, []) := by
  have hn' := wf_i64 hn
  have hk : ∀ p ∈ s.ps, -9223372036854775808 ≤ p.blk ∧ p.blk ≤ 9223372036854775807 := fun p hp => (hs.ps p hp).2.2
  have hps := s.hps
  by_cases c1 : s.mem.length ≤ 2048
  case neg =>
    have c2 : (2048 : Int) < s.mem.length := by omega
    (refine gives_iff ?_; refine go_func Try.f4 rfl rfl (by simp [Try.f4]) ?_; dsimp only [codeL, Try.f4, scL, sopsL, guardL, dstAt, loopKey])
    (repeat (first
    | (apply is_ok; (case hw => simp [c2]); (case he => simp [c2]; exact is_rfl))
    | (apply op_no; (case hw => simp [c2]))
    | refine op_nil ?_ | refine next_normal ?_ | refine go_seq ?_ | refine go_region ?_ | refine go_skip ?_ | refine go_block ?_ | refine inb_normal ?_
    | (apply go_yes; (case hc => simp [c2])) | (apply go_no; (case hc => simp [c2]))
    | refine go_exit ?_ | refine next_exit ?_ | refine inb_here ?_ | refine inb_past (by decide) ?_ | refine go_ret ?_ | refine next_ret ?_ | refine inb_ret ?_))
    (apply ends_ok; (case h1 => simp; exact is_rfl); (case h2 => simp; exact is_rfl))
    simp
  by_cases c3 : s.S.length ≤ 256
  case neg =>
    have c2 : ¬ (2048 : Int) < s.mem.length := by omega
    have c4 : (256 : Int) < s.S.length := by omega
    (refine gives_iff ?_; refine go_func Try.f4 rfl rfl (by simp [Try.f4]) ?_; dsimp only [codeL, Try.f4, scL, sopsL, guardL, dstAt, loopKey])
    (repeat (first
    | (apply is_ok; (case hw => simp [c2, c4]); (case he => simp [c2, c4]; exact is_rfl))
    | (apply op_no; (case hw => simp [c2, c4]))
    | refine op_nil ?_ | refine next_normal ?_ | refine go_seq ?_ | refine go_region ?_ | refine go_skip ?_ | refine go_block ?_ | refine inb_normal ?_
    | (apply go_yes; (case hc => simp [c2, c4])) | (apply go_no; (case hc => simp [c2, c4]))
    | refine go_exit ?_ | refine next_exit ?_ | refine inb_here ?_ | refine inb_past (by decide) ?_ | refine go_ret ?_ | refine next_ret ?_ | refine inb_ret ?_))
    (apply ends_ok; (case h1 => simp; exact is_rfl); (case h2 => simp; exact is_rfl))
    simp
  have c2 : ¬ (2048 : Int) < s.mem.length := by omega
  have c4 : ¬ (256 : Int) < s.S.length := by omega
  have v1 := Sectors_eq n hn'
  have v2 := SectorsR_eq n hn'
  have v3 := Core_eq s
  have v4 := CoreR_eq s
  have v5 := Swapped_eq s hk
  have v6 := SwappedR_eq s hk
  have l1 := coreL_len s.ps
  have l2 := swpL_len s.ps
  have v7 := SameEx_eq (coreL s.ps) (by omega)
  have v8 := SameEx_eq (swpL s.ps) (by omega)
  have v9 := swRight_eq s (by omega) (by omega) hk
  have v10 := swRightR_eq s (by omega) (by omega) hk
  generalize secN n = q at v1 v2
  generalize rightB s = b at v9 v10
  (refine gives_iff ?_; refine go_func Try.f4 rfl rfl (by simp [Try.f4]) ?_; dsimp only [codeL, Try.f4, scL, sopsL, guardL, dstAt, loopKey])
  (repeat (first
    | (apply is_ok; (case hw => simp [c2, c4, v1, v2, v3, v4, v5, v6, v7, v8, v9, v10, alive45_eq]); (case he => simp [c2, c4, v1, v2, v3, v4, v5, v6, v7, v8, v9, v10, alive45_eq]; exact is_rfl))
    | (apply op_no; (case hw => simp [c2, c4, v1, v2, v3, v4, v5, v6, v7, v8, v9, v10, alive45_eq]))
    | refine op_nil ?_ | refine next_normal ?_ | refine go_seq ?_ | refine go_region ?_ | refine go_skip ?_ | refine go_block ?_ | refine inb_normal ?_
    | (apply go_yes; (case hc => simp [c2, c4, v1, v2, v3, v4, v5, v6, v7, v8, v9, v10, alive45_eq])) | (apply go_no; (case hc => simp [c2, c4, v1, v2, v3, v4, v5, v6, v7, v8, v9, v10, alive45_eq]))
    | refine go_exit ?_ | refine next_exit ?_ | refine inb_here ?_ | refine inb_past (by decide) ?_ | refine go_ret ?_ | refine next_ret ?_ | refine inb_ret ?_))
  (apply ends_ok; (case h1 => simp; exact is_rfl); (case h2 => simp; exact is_rfl))
  simp
end Go.Abs
