/- Proved here: what functions of the program compute, over the evaluator. No condition but those that each theorem states. -/
import Derived.Test.YtpffmpllnpmkbaaE18
namespace Go.Abs
open Go.Proofs
set_option maxRecDepth 100000
set_option linter.unusedSimpArgs false
set_option linter.unusedVariables false

theorem bool_of {P : Program} {t : TypeId} {x : V} (hu : P.underlying t = some .bool) (h : ArgT P t x) : ∃ b, x = .bool b := by
  obtain ⟨n, h1, h2⟩ := h
  rw [show aggT P t = some false by simp [aggT, hu]] at h2
  rw [cells_one (Option.some.inj h2).symm] at h1
  obtain ⟨m, h3⟩ := hasT_bool hu h1
  cases h3
  exact ⟨m, rfl⟩
theorem ints_of {x : V} (h : ArgT Try.prog 32 x) : ∃ l : List Int, x = .sl (ints l) ∧ l.length ≤ maxLen ∧ In64 l := by
  obtain ⟨n, h1, h2⟩ := h
  rw [show aggT Try.prog 32 = some false by kernel_rfl] at h2
  rw [cells_one (Option.some.inj h2).symm] at h1
  obtain ⟨S, h3, h4, h5⟩ := hasT_ints Try.underlying32 (cells_ne (n := 1) (by kernel_rfl) (by decide)) Try.underlying3 h1
  cases h3
  exact ⟨S, rfl, h4, fun x hx => wf_i64 (h5 x hx)⟩
theorem InodeMarks_eq (S : List (List UInt8)) (B : List Int) (hS : S.length ≤ maxLen) (hB : B.length ≤ maxLen) (l : List Int) (hX : In64 l) (u : Bool) :
    bodyW DC 6 [drv S B, .sl (ints l), .bool u] [] = some (.bool true, []) := by
  have hM := small38_eq S B hS
  by_cases hs : SmallD S B
  case neg =>
    (refine gives_iff ?_; refine go_func Try.f6 rfl rfl (by simp [Try.f6]) ?_; dsimp only [codeL, Try.f6, scL, sopsL, guardL, dstAt, loopKey])
    (repeat (first
    | (apply is_ok; (case hw => simp [hM, hs]); (case he => simp [hM, hs]; exact is_rfl))
    | (apply op_no; (case hw => simp [hM, hs]))
    | refine op_nil ?_ | refine next_normal ?_ | refine go_seq ?_ | refine go_region ?_ | refine go_skip ?_ | refine go_block ?_ | refine inb_normal ?_
    | (apply go_yes; (case hc => simp [hM, hs])) | (apply go_no; (case hc => simp [hM, hs]))
    | refine go_exit ?_ | refine next_exit ?_ | refine inb_here ?_ | refine inb_past (by decide) ?_ | refine go_ret ?_ | refine next_ret ?_ | refine inb_ret ?_))
    (apply ends_ok; (case h1 => simp; exact is_rfl); (case h2 => simp; exact is_rfl))
    simp
  by_cases hl : l.length ≤ 300
  case neg =>
    have hl' : (300 : Int) < l.length := by omega
    (refine gives_iff ?_; refine go_func Try.f6 rfl rfl (by simp [Try.f6]) ?_; dsimp only [codeL, Try.f6, scL, sopsL, guardL, dstAt, loopKey])
    (repeat (first
    | (apply is_ok; (case hw => simp [hM, hs, hl']); (case he => simp [hM, hs, hl']; exact is_rfl))
    | (apply op_no; (case hw => simp [hM, hs, hl']))
    | refine op_nil ?_ | refine next_normal ?_ | refine go_seq ?_ | refine go_region ?_ | refine go_skip ?_ | refine go_block ?_ | refine inb_normal ?_
    | (apply go_yes; (case hc => simp [hM, hs, hl'])) | (apply go_no; (case hc => simp [hM, hs, hl']))
    | refine go_exit ?_ | refine next_exit ?_ | refine inb_here ?_ | refine inb_past (by decide) ?_ | refine go_ret ?_ | refine next_ret ?_ | refine inb_ret ?_))
    (apply ends_ok; (case h1 => simp; exact is_rfl); (case h2 => simp; exact is_rfl))
    simp
  have hl' : ¬ (300 : Int) < l.length := by omega
  have hG := Mark_eq S B hB l (by omega) hX u
  have hG' := MarkR_eq S B hB l (by omega) hX u
  have hA := alive38_eq
  generalize markW S B l u = p at hG hG'
  have hE2 := same_wr p.1.1 p.1.2
  (refine gives_iff ?_; refine go_func Try.f6 rfl rfl (by simp [Try.f6]) ?_; dsimp only [codeL, Try.f6, scL, sopsL, guardL, dstAt, loopKey])
  (repeat (first
    | (apply is_ok; (case hw => simp [-binV, hM, hs, hl', hG, hG', hA, hE2]); (case he => simp [-binV, hM, hs, hl', hG, hG', hA, hE2]; exact is_rfl))
    | (apply op_no; (case hw => simp [-binV, hM, hs, hl', hG, hG', hA, hE2]))
    | refine op_nil ?_ | refine next_normal ?_ | refine go_seq ?_ | refine go_region ?_ | refine go_skip ?_ | refine go_block ?_ | refine inb_normal ?_
    | (apply go_yes; (case hc => simp [-binV, hM, hs, hl', hG, hG', hA, hE2])) | (apply go_no; (case hc => simp [-binV, hM, hs, hl', hG, hG', hA, hE2]))
    | refine go_exit ?_ | refine next_exit ?_ | refine inb_here ?_ | refine inb_past (by decide) ?_ | refine go_ret ?_ | refine next_ret ?_ | refine inb_ret ?_))
  (apply ends_ok; (case h1 => simp; exact is_rfl); (case h2 => simp; exact is_rfl))
  simp
end Go.Abs
