/- Proved here: what functions of the program compute, over the evaluator. No condition but those that each theorem states. -/
import Derived.Test.YtbnnaaadblpgiaaD18
namespace Go.Abs
open Go.Proofs
set_option maxRecDepth 100000
set_option linter.unusedSimpArgs false
set_option linter.unusedVariables false

theorem same_nil : bodyW DC 12 [.agg [.sl [], .sl []], .agg [.sl [], .sl []]] [] = some (.bool true, []) := by
  have h := SameDrive_eq [] [] [] [] (by simp) (by simp) (by simp)
  simpa [drv] using h

/-- Both ways of writing. -/
theorem Write_both (S : List (List UInt8)) (B : List Int) (b1 : S.length ≤ 1000000) (b2 : B.length ≤ 1000000) (w : Int × List UInt8) : (∃ T : List (List UInt8), T.length = S.length ∧
      bodyW DC 8 [drv S B, .int .i64 w.1, .str w.2] [] = some (.tuple [.agg [.own 0 S.length 0 S.length, .own 1 B.length 0 B.length], .int .i64 0], [.dat true 1 (strs T), .dat true 1 (ints B)]) ∧
      bodyW DC 9 [drv S B, .int .i64 w.1, .str w.2] [] = some (.tuple [.agg [.own 0 S.length 0 S.length, .sl (ints B)], .int .i64 0], [.dat true 1 (strs T)])) ∨
    ∃ e, bodyW DC 8 [drv S B, .int .i64 w.1, .str w.2] [] = some (.tuple [.agg [.nils, .nils], .int .i64 e], []) ∧
      bodyW DC 9 [drv S B, .int .i64 w.1, .str w.2] [] = some (.tuple [.agg [.nils, .nils], .int .i64 e], []) := by
  by_cases hz : faultI S.length B w = 0
  · exact .inl ⟨_, putS_length, Write_ok S B b1 b2 w hz, WriteR_ok S B b1 (by unfold maxLen; omega) w hz⟩
  · exact .inr ⟨_, Write_no S B b1 b2 w hz, WriteR_no S B (by unfold maxLen; omega) w hz⟩

set_option maxHeartbeats 4000000 in
theorem DriveAccesses_eq (S : List (List UInt8)) (B : List Int) (hB : B.length ≤ maxLen) (k : Int) (s : List UInt8) : bodyW DC 3 [drv S B, .int .i64 k, .str s] [] = some (.bool true, []) := by
  have hG := good_eq S B hB
  have hA := alive_eq
  by_cases h : FairP S B ∧ RightP S B
  case neg =>
    (refine gives_iff ?_; refine go_func Try.f3 rfl rfl (by simp [Try.f3]) ?_; dsimp only [codeL, Try.f3, scL, sopsL, guardL, dstAt, loopKey])
    (repeat (first
    | (apply is_ok; (case hw => simp [hG, h, hA]); (case he => simp [hG, h, hA]; exact is_rfl))
    | (apply op_no; (case hw => simp [hG, h, hA]))
    | refine op_nil ?_ | refine next_normal ?_ | refine go_seq ?_ | refine go_region ?_ | refine go_skip ?_ | refine go_block ?_ | refine inb_normal ?_
    | (apply go_yes; (case hc => simp [hG, h, hA])) | (apply go_no; (case hc => simp [hG, h, hA]))
    | refine go_exit ?_ | refine next_exit ?_ | refine inb_here ?_ | refine inb_past (by decide) ?_ | refine go_ret ?_ | refine next_ret ?_ | refine inb_ret ?_))
    (apply ends_ok; (case h1 => simp; exact is_rfl); (case h2 => simp; exact is_rfl))
    simp
  by_cases h2 : s.length ≤ 200
  case neg =>
    have e2 : (200 : Int) < s.length := by omega
    (refine gives_iff ?_; refine go_func Try.f3 rfl rfl (by simp [Try.f3]) ?_; dsimp only [codeL, Try.f3, scL, sopsL, guardL, dstAt, loopKey])
    (repeat (first
    | (apply is_ok; (case hw => simp [hG, h, e2, hA]); (case he => simp [hG, h, e2, hA]; exact is_rfl))
    | (apply op_no; (case hw => simp [hG, h, e2, hA]))
    | refine op_nil ?_ | refine next_normal ?_ | refine go_seq ?_ | refine go_region ?_ | refine go_skip ?_ | refine go_block ?_ | refine inb_normal ?_
    | (apply go_yes; (case hc => simp [hG, h, e2, hA])) | (apply go_no; (case hc => simp [hG, h, e2, hA]))
    | refine go_exit ?_ | refine next_exit ?_ | refine inb_here ?_ | refine inb_past (by decide) ?_ | refine go_ret ?_ | refine next_ret ?_ | refine inb_ret ?_))
    (apply ends_ok; (case h1 => simp; exact is_rfl); (case h2 => simp; exact is_rfl))
    simp
  have e2 : ¬ ((200 : Int) < s.length) := by omega
  have b1 : S.length ≤ 1000000 := by have := h.1.1; omega
  have b2 : B.length ≤ 1000000 := by have := h.1.2.1; omega
  have v1 := Read_eq S B hB k
  have v2 := ReadR_eq S B hB k
  generalize (readS S B k).1 = rt at v1 v2
  generalize (readS S B k).2 = re at v1 v2
  have sn := same_nil
  have hSB := SameDrive_eq S S B B b1 b1 hB
  simp only [and_self, decide_true] at hSB
  obtain ⟨c, hc⟩ := posI_ex h.2 k
  have sp : (∃ Z : List Int, Z.length ≤ 1000001 ∧ bodyW DC 10 [drv S B, .int .i64 k] [] = some (.tuple [.agg [.own 0 S.length 0 S.length, .own 1 Z.length 0 Z.length], .int .i64 0], [.dat true 1 (strs S), .dat true 1 (ints Z)]) ∧
      ((Z = B ∧ bodyW DC 11 [drv S B, .int .i64 k] [] = some (.tuple [drv S B, .int .i64 0], [])) ∨ bodyW DC 11 [drv S B, .int .i64 k] [] = some (.tuple [.agg [.sl (strs S), .own 0 Z.length 0 Z.length], .int .i64 0], [.dat true 1 (ints Z)]))) ∨
      (bodyW DC 10 [drv S B, .int .i64 k] [] = some (.tuple [.agg [.nils, .nils], .int .i64 2], []) ∧ bodyW DC 11 [drv S B, .int .i64 k] [] = some (.tuple [.agg [.nils, .nils], .int .i64 2], [])) := by
    by_cases hr : 0 ≤ k ∧ k < S.length
    · refine .inl ⟨spoilB B k c, ?_, Spoil_eq S B b1 b2 h.2 k c hc hr, ?_⟩
      · unfold spoilB; split
        · omega
        · have := hc.le; simp; omega
      · by_cases hx : k ∈ B
        · exact .inl ⟨if_pos hx, SpoilR_in S B b2 k hx hr⟩
        · have e : spoilB B k c = B.take c ++ k :: B.drop c := if_neg hx
          have el : (spoilB B k c).length = B.length + 1 := by rw [e]; have := hc.le; simp; omega
          rw [el, e]
          exact .inr (SpoilR_eq S B b2 k c hc hx hr)
    · exact .inr ⟨Spoil_no S B k hr, SpoilR_no S B k hr⟩
  have wb := Write_both S B b1 b2 (k, s)
  simp only at wb
  rcases wb with ⟨T, hT, v3, v4⟩ | ⟨e, v3, v4⟩
  · have sT := SameDrive_eq T T B B (by omega) (by omega) hB
    simp only [and_self, decide_true] at sT
    rcases sp with ⟨Z, hZ, v5, ⟨rfl, v6⟩ | v6⟩ | ⟨v5, v6⟩
    · (refine gives_iff ?_; refine go_func Try.f3 rfl rfl (by simp [Try.f3]) ?_; dsimp only [codeL, Try.f3, scL, sopsL, guardL, dstAt, loopKey])
      (repeat (first
    | (apply is_ok; (case hw => simp [hG, h, e2, hA, v1, v2, v3, v4, v5, v6, sn, hSB, sT, hT]); (case he => simp [hG, h, e2, hA, v1, v2, v3, v4, v5, v6, sn, hSB, sT, hT]; exact is_rfl))
    | (apply op_no; (case hw => simp [hG, h, e2, hA, v1, v2, v3, v4, v5, v6, sn, hSB, sT, hT]))
    | refine op_nil ?_ | refine next_normal ?_ | refine go_seq ?_ | refine go_region ?_ | refine go_skip ?_ | refine go_block ?_ | refine inb_normal ?_
    | (apply go_yes; (case hc => simp [hG, h, e2, hA, v1, v2, v3, v4, v5, v6, sn, hSB, sT, hT])) | (apply go_no; (case hc => simp [hG, h, e2, hA, v1, v2, v3, v4, v5, v6, sn, hSB, sT, hT]))
    | refine go_exit ?_ | refine next_exit ?_ | refine inb_here ?_ | refine inb_past (by decide) ?_ | refine go_ret ?_ | refine next_ret ?_ | refine inb_ret ?_))
      (apply ends_ok; (case h1 => simp; exact is_rfl); (case h2 => simp; exact is_rfl))
      simp
    · have sZ := SameDrive_eq S S Z Z b1 b1 (by unfold maxLen; omega)
      simp only [and_self, decide_true] at sZ
      (refine gives_iff ?_; refine go_func Try.f3 rfl rfl (by simp [Try.f3]) ?_; dsimp only [codeL, Try.f3, scL, sopsL, guardL, dstAt, loopKey])
      (repeat (first
    | (apply is_ok; (case hw => simp [hG, h, e2, hA, v1, v2, v3, v4, v5, v6, sn, hSB, sT, sZ, hT]); (case he => simp [hG, h, e2, hA, v1, v2, v3, v4, v5, v6, sn, hSB, sT, sZ, hT]; exact is_rfl))
    | (apply op_no; (case hw => simp [hG, h, e2, hA, v1, v2, v3, v4, v5, v6, sn, hSB, sT, sZ, hT]))
    | refine op_nil ?_ | refine next_normal ?_ | refine go_seq ?_ | refine go_region ?_ | refine go_skip ?_ | refine go_block ?_ | refine inb_normal ?_
    | (apply go_yes; (case hc => simp [hG, h, e2, hA, v1, v2, v3, v4, v5, v6, sn, hSB, sT, sZ, hT])) | (apply go_no; (case hc => simp [hG, h, e2, hA, v1, v2, v3, v4, v5, v6, sn, hSB, sT, sZ, hT]))
    | refine go_exit ?_ | refine next_exit ?_ | refine inb_here ?_ | refine inb_past (by decide) ?_ | refine go_ret ?_ | refine next_ret ?_ | refine inb_ret ?_))
      (apply ends_ok; (case h1 => simp; exact is_rfl); (case h2 => simp; exact is_rfl))
      simp
    · (refine gives_iff ?_; refine go_func Try.f3 rfl rfl (by simp [Try.f3]) ?_; dsimp only [codeL, Try.f3, scL, sopsL, guardL, dstAt, loopKey])
      (repeat (first
    | (apply is_ok; (case hw => simp [hG, h, e2, hA, v1, v2, v3, v4, v5, v6, sn, hSB, sT, hT]); (case he => simp [hG, h, e2, hA, v1, v2, v3, v4, v5, v6, sn, hSB, sT, hT]; exact is_rfl))
    | (apply op_no; (case hw => simp [hG, h, e2, hA, v1, v2, v3, v4, v5, v6, sn, hSB, sT, hT]))
    | refine op_nil ?_ | refine next_normal ?_ | refine go_seq ?_ | refine go_region ?_ | refine go_skip ?_ | refine go_block ?_ | refine inb_normal ?_
    | (apply go_yes; (case hc => simp [hG, h, e2, hA, v1, v2, v3, v4, v5, v6, sn, hSB, sT, hT])) | (apply go_no; (case hc => simp [hG, h, e2, hA, v1, v2, v3, v4, v5, v6, sn, hSB, sT, hT]))
    | refine go_exit ?_ | refine next_exit ?_ | refine inb_here ?_ | refine inb_past (by decide) ?_ | refine go_ret ?_ | refine next_ret ?_ | refine inb_ret ?_))
      (apply ends_ok; (case h1 => simp; exact is_rfl); (case h2 => simp; exact is_rfl))
      simp
  · rcases sp with ⟨Z, hZ, v5, ⟨rfl, v6⟩ | v6⟩ | ⟨v5, v6⟩
    · (refine gives_iff ?_; refine go_func Try.f3 rfl rfl (by simp [Try.f3]) ?_; dsimp only [codeL, Try.f3, scL, sopsL, guardL, dstAt, loopKey])
      (repeat (first
    | (apply is_ok; (case hw => simp [hG, h, e2, hA, v1, v2, v3, v4, v5, v6, sn, hSB]); (case he => simp [hG, h, e2, hA, v1, v2, v3, v4, v5, v6, sn, hSB]; exact is_rfl))
    | (apply op_no; (case hw => simp [hG, h, e2, hA, v1, v2, v3, v4, v5, v6, sn, hSB]))
    | refine op_nil ?_ | refine next_normal ?_ | refine go_seq ?_ | refine go_region ?_ | refine go_skip ?_ | refine go_block ?_ | refine inb_normal ?_
    | (apply go_yes; (case hc => simp [hG, h, e2, hA, v1, v2, v3, v4, v5, v6, sn, hSB])) | (apply go_no; (case hc => simp [hG, h, e2, hA, v1, v2, v3, v4, v5, v6, sn, hSB]))
    | refine go_exit ?_ | refine next_exit ?_ | refine inb_here ?_ | refine inb_past (by decide) ?_ | refine go_ret ?_ | refine next_ret ?_ | refine inb_ret ?_))
      (apply ends_ok; (case h1 => simp; exact is_rfl); (case h2 => simp; exact is_rfl))
      simp
    · have sZ := SameDrive_eq S S Z Z b1 b1 (by unfold maxLen; omega)
      simp only [and_self, decide_true] at sZ
      (refine gives_iff ?_; refine go_func Try.f3 rfl rfl (by simp [Try.f3]) ?_; dsimp only [codeL, Try.f3, scL, sopsL, guardL, dstAt, loopKey])
      (repeat (first
    | (apply is_ok; (case hw => simp [hG, h, e2, hA, v1, v2, v3, v4, v5, v6, sn, hSB, sZ]); (case he => simp [hG, h, e2, hA, v1, v2, v3, v4, v5, v6, sn, hSB, sZ]; exact is_rfl))
    | (apply op_no; (case hw => simp [hG, h, e2, hA, v1, v2, v3, v4, v5, v6, sn, hSB, sZ]))
    | refine op_nil ?_ | refine next_normal ?_ | refine go_seq ?_ | refine go_region ?_ | refine go_skip ?_ | refine go_block ?_ | refine inb_normal ?_
    | (apply go_yes; (case hc => simp [hG, h, e2, hA, v1, v2, v3, v4, v5, v6, sn, hSB, sZ])) | (apply go_no; (case hc => simp [hG, h, e2, hA, v1, v2, v3, v4, v5, v6, sn, hSB, sZ]))
    | refine go_exit ?_ | refine next_exit ?_ | refine inb_here ?_ | refine inb_past (by decide) ?_ | refine go_ret ?_ | refine next_ret ?_ | refine inb_ret ?_))
      (apply ends_ok; (case h1 => simp; exact is_rfl); (case h2 => simp; exact is_rfl))
      simp
    · (refine gives_iff ?_; refine go_func Try.f3 rfl rfl (by simp [Try.f3]) ?_; dsimp only [codeL, Try.f3, scL, sopsL, guardL, dstAt, loopKey])
      (repeat (first
    | (apply is_ok; (case hw => simp [hG, h, e2, hA, v1, v2, v3, v4, v5, v6, sn, hSB]); (case he => simp [hG, h, e2, hA, v1, v2, v3, v4, v5, v6, sn, hSB]; exact is_rfl))
    | (apply op_no; (case hw => simp [hG, h, e2, hA, v1, v2, v3, v4, v5, v6, sn, hSB]))
    | refine op_nil ?_ | refine next_normal ?_ | refine go_seq ?_ | refine go_region ?_ | refine go_skip ?_ | refine go_block ?_ | refine inb_normal ?_
    | (apply go_yes; (case hc => simp [hG, h, e2, hA, v1, v2, v3, v4, v5, v6, sn, hSB])) | (apply go_no; (case hc => simp [hG, h, e2, hA, v1, v2, v3, v4, v5, v6, sn, hSB]))
    | refine go_exit ?_ | refine next_exit ?_ | refine inb_here ?_ | refine inb_past (by decide) ?_ | refine go_ret ?_ | refine next_ret ?_ | refine inb_ret ?_))
      (apply ends_ok; (case h1 => simp; exact is_rfl); (case h2 => simp; exact is_rfl))
      simp
end Go.Abs
