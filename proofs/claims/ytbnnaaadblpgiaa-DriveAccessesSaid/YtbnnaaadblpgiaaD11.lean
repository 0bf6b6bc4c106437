/- Proved here: what functions of the program compute, over the evaluator. No condition but those that each theorem states. -/
import Derived.Test.YtbnnaaadblpgiaaD10
namespace Go.Abs
open Go.Proofs
set_option maxRecDepth 100000
set_option linter.unusedSimpArgs false

def SmallP (l : List (Int × List UInt8)) : Prop := l.length ≤ 60 ∧ ∀ w ∈ l, w.2.length ≤ 200
instance (l : List (Int × List UInt8)) : Decidable (SmallP l) := by unfold SmallP; infer_instance

theorem good_eq (S : List (List UInt8)) (B : List Int) (hB : B.length ≤ maxLen) : bodyW DC 4 [drv S B] [] = some (.bool (decide (FairP S B ∧ RightP S B)), []) := by
  have hF := Fair_eq S B
  have hR := RightR_eq S B hB
  (refine gives_iff ?_; refine go_func Try.f4 rfl rfl (by simp [Try.f4]) ?_; dsimp only [codeL, Try.f4, scL, sopsL, guardL, dstAt, loopKey])
  by_cases h : FairP S B
  · (repeat (first
    | (apply is_ok; (case hw => simp [hF, hR, h]); (case he => simp [hF, hR, h]; exact is_rfl))
    | (apply op_no; (case hw => simp [hF, hR, h]))
    | refine op_nil ?_ | refine next_normal ?_ | refine go_seq ?_ | refine go_region ?_ | refine go_skip ?_ | refine go_block ?_ | refine inb_normal ?_
    | (apply go_yes; (case hc => simp [hF, hR, h])) | (apply go_no; (case hc => simp [hF, hR, h]))
    | refine go_exit ?_ | refine next_exit ?_ | refine inb_here ?_ | refine inb_past (by decide) ?_ | refine go_ret ?_ | refine next_ret ?_ | refine inb_ret ?_))
    (apply ends_ok; (case h1 => simp; exact is_rfl); (case h2 => simp; exact is_rfl))
    simp [h]
  · (repeat (first
    | (apply is_ok; (case hw => simp [hF, h]); (case he => simp [hF, h]; exact is_rfl))
    | (apply op_no; (case hw => simp [hF, h]))
    | refine op_nil ?_ | refine next_normal ?_ | refine go_seq ?_ | refine go_region ?_ | refine go_skip ?_ | refine go_block ?_ | refine inb_normal ?_
    | (apply go_yes; (case hc => simp [hF, h])) | (apply go_no; (case hc => simp [hF, h]))
    | refine go_exit ?_ | refine next_exit ?_ | refine inb_here ?_ | refine inb_past (by decide) ?_ | refine go_ret ?_ | refine next_ret ?_ | refine inb_ret ?_))
    (apply ends_ok; (case h1 => simp; exact is_rfl); (case h2 => simp; exact is_rfl))
    simp [h]

theorem applyS_length (B : List Int) (fuse : Int) : ∀ (l : List (Int × List UInt8)) (S : List (List UInt8)) (i : Nat), (applyS B fuse S i l).1.length = S.length
  | [], S, i => rfl
  | w :: l, S, i => by
    rw [applyS]
    split
    · rfl
    · split
      · rw [applyS_length B fuse l, putS_length]
      · rfl

end Go.Abs
