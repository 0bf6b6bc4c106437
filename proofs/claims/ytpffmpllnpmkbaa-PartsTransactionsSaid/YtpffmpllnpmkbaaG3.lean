/- Proved here: what functions of the program compute, over the evaluator. No condition but those that each theorem states. -/
import Derived.Test.YtpffmpllnpmkbaaG2
namespace Go.Abs
open Go.Proofs
set_option maxRecDepth 100000
set_option linter.unusedSimpArgs false

theorem has_eq (S : List (List UInt8)) (B : List Int) (k : Int) : bodyW DC 80 [drv S B, .int .i64 k] [] = some (.bool (decide (0 ≤ k ∧ k < S.length)), []) := by
  (refine gives_iff ?_; refine go_func Try.f80 rfl rfl (by simp [Try.f80]) ?_; dsimp only [codeL, Try.f80, scL, sopsL, guardL, dstAt, loopKey])
  by_cases h1 : 0 ≤ k
  · (repeat (first
    | (apply is_ok; (case hw => simp [h1]); (case he => simp [h1]; exact is_rfl))
    | (apply op_no; (case hw => simp [h1]))
    | refine op_nil ?_ | refine next_normal ?_ | refine go_seq ?_ | refine go_region ?_ | refine go_skip ?_ | refine go_block ?_ | refine inb_normal ?_
    | (apply go_yes; (case hc => simp [h1])) | (apply go_no; (case hc => simp [h1]))
    | refine go_exit ?_ | refine next_exit ?_ | refine inb_here ?_ | refine inb_past (by decide) ?_ | refine go_ret ?_ | refine next_ret ?_ | refine inb_ret ?_))
    (apply ends_ok; (case h1 => simp; exact is_rfl); (case h2 => simp; exact is_rfl))
    simp [h1]
  · (repeat (first
    | (apply is_ok; (case hw => simp [h1]); (case he => simp [h1]; exact is_rfl))
    | (apply op_no; (case hw => simp [h1]))
    | refine op_nil ?_ | refine next_normal ?_ | refine go_seq ?_ | refine go_region ?_ | refine go_skip ?_ | refine go_block ?_ | refine inb_normal ?_
    | (apply go_yes; (case hc => simp [h1])) | (apply go_no; (case hc => simp [h1]))
    | refine go_exit ?_ | refine next_exit ?_ | refine inb_here ?_ | refine inb_past (by decide) ?_ | refine go_ret ?_ | refine next_ret ?_ | refine inb_ret ?_))
    (apply ends_ok; (case h1 => simp; exact is_rfl); (case h2 => simp; exact is_rfl))
    simp [h1]

theorem Isbad_eq (S : List (List UInt8)) (B : List Int) (hB : B.length ≤ maxLen) (k : Int) : bodyW DC 90 [drv S B, .int .i64 k] [] = some (.bool (decide (k ∈ B)), []) := by
  unfold maxLen at hB
  (refine gives_iff ?_; refine go_func Try.f90 rfl rfl (by simp [Try.f90]) ?_; dsimp only [codeL, Try.f90, scL, sopsL, guardL, dstAt, loopKey])
  (repeat (first
    | (apply is_ok; (case hw => simp); (case he => simp; exact is_rfl))
    | (apply op_no; (case hw => simp))
    | refine op_nil ?_ | refine next_normal ?_ | refine go_seq ?_ | refine go_region ?_ | refine go_skip ?_ | refine go_block ?_ | refine inb_normal ?_
    | (apply go_yes; (case hc => simp)) | (apply go_no; (case hc => simp))
    | refine go_exit ?_ | refine next_exit ?_ | refine inb_here ?_ | refine inb_past (by decide) ?_ | refine go_ret ?_ | refine next_ret ?_ | refine inb_ret ?_))
  refine go_count B.length (fun i => [(1, .int .i64 k), (2, .ptr 0 1 0 0), (5, .int .i64 i)]) (fun _ => [.box (drv S B)]) (fun i => ∀ j (hj : j < B.length), j < i → B[j] ≠ k) (by simp) (by simp) fun i hi hI => ?_
  by_cases hlt : i < B.length
  · have hw : IntKind.i64.wrap ((i : Int) + 1) = (i : Int) + 1 := wrap_id (by omega) (by omega)
    by_cases h3 : B[i] = k
    · (repeat (first
    | (apply is_ok; (case hw => simp [hlt, h3]); (case he => simp [hlt, h3]; exact is_rfl))
    | (apply op_no; (case hw => simp [hlt, h3]))
    | refine op_nil ?_ | refine next_normal ?_ | refine go_seq ?_ | refine go_region ?_ | refine go_skip ?_ | refine go_block ?_ | refine inb_normal ?_
    | (apply go_yes; (case hc => simp [hlt, h3])) | (apply go_no; (case hc => simp [hlt, h3]))
    | refine go_exit ?_ | refine next_exit ?_ | refine inb_here ?_ | refine inb_past (by decide) ?_ | refine go_ret ?_ | refine next_ret ?_ | refine inb_ret ?_))
      (apply ends_ok; (case h1 => simp; exact is_rfl); (case h2 => simp; exact is_rfl))
      have : k ∈ B := h3 ▸ List.getElem_mem hlt
      simp [this]
    · (repeat (first
    | (apply is_ok; (case hw => simp [hlt, h3]); (case he => simp [hlt, h3]; exact is_rfl))
    | (apply op_no; (case hw => simp [hlt, h3]))
    | refine op_nil ?_ | refine next_normal ?_ | refine go_seq ?_ | refine go_region ?_ | refine go_skip ?_ | refine go_block ?_ | refine inb_normal ?_
    | (apply go_yes; (case hc => simp [hlt, h3])) | (apply go_no; (case hc => simp [hlt, h3]))
    | refine go_exit ?_ | refine next_exit ?_ | refine inb_here ?_ | refine inb_past (by decide) ?_ | refine go_ret ?_ | refine next_ret ?_ | refine inb_ret ?_))
      exact ⟨hlt, by simp [hw], fun j hj hji => by
        by_cases hje : j = i
        · subst hje; exact h3
        · exact hI j hj (by omega)⟩
  · (repeat (first
    | (apply is_ok; (case hw => simp [hlt]); (case he => simp [hlt]; exact is_rfl))
    | (apply op_no; (case hw => simp [hlt]))
    | refine op_nil ?_ | refine next_normal ?_ | refine go_seq ?_ | refine go_region ?_ | refine go_skip ?_ | refine go_block ?_ | refine inb_normal ?_
    | (apply go_yes; (case hc => simp [hlt])) | (apply go_no; (case hc => simp [hlt]))
    | refine go_exit ?_ | refine next_exit ?_ | refine inb_here ?_ | refine inb_past (by decide) ?_ | refine go_ret ?_ | refine next_ret ?_ | refine inb_ret ?_))
    (apply ends_ok; (case h1 => simp; exact is_rfl); (case h2 => simp; exact is_rfl))
    have : k ∉ B := fun h => by
      obtain ⟨j, hj, h⟩ := List.getElem_of_mem h
      exact hI j hj (by omega) h
    simp [this]

theorem RightR_eq (S : List (List UInt8)) (B : List Int) (hB : B.length ≤ maxLen) : bodyW DC 30 [drv S B] [] = some (.bool (decide (RightP S B)), []) := by
  unfold maxLen at hB
  (refine gives_iff ?_; refine go_func Try.f30 rfl rfl (by simp [Try.f30]) ?_; dsimp only [codeL, Try.f30, scL, sopsL, guardL, dstAt, loopKey])
  by_cases h1 : 1 ≤ S.length
  case neg =>
    have e1 : ((S.length : Int) < 1) := by omega
    (repeat (first
    | (apply is_ok; (case hw => simp [e1]); (case he => simp [e1]; exact is_rfl))
    | (apply op_no; (case hw => simp [e1]))
    | refine op_nil ?_ | refine next_normal ?_ | refine go_seq ?_ | refine go_region ?_ | refine go_skip ?_ | refine go_block ?_ | refine inb_normal ?_
    | (apply go_yes; (case hc => simp [e1])) | (apply go_no; (case hc => simp [e1]))
    | refine go_exit ?_ | refine next_exit ?_ | refine inb_here ?_ | refine inb_past (by decide) ?_ | refine go_ret ?_ | refine next_ret ?_ | refine inb_ret ?_))
    (apply ends_ok; (case h1 => simp; exact is_rfl); (case h2 => simp; exact is_rfl))
    have : ¬ RightP S B := fun h => h1 h.1
    simp [this]
  have e1 : ¬ ((S.length : Int) < 1) := by omega
  by_cases h2 : S.length ≤ 256
  case neg =>
    have e2 : ((256 : Int) < S.length) := by omega
    (repeat (first
    | (apply is_ok; (case hw => simp [e1, e2]); (case he => simp [e1, e2]; exact is_rfl))
    | (apply op_no; (case hw => simp [e1, e2]))
    | refine op_nil ?_ | refine next_normal ?_ | refine go_seq ?_ | refine go_region ?_ | refine go_skip ?_ | refine go_block ?_ | refine inb_normal ?_
    | (apply go_yes; (case hc => simp [e1, e2])) | (apply go_no; (case hc => simp [e1, e2]))
    | refine go_exit ?_ | refine next_exit ?_ | refine inb_here ?_ | refine inb_past (by decide) ?_ | refine go_ret ?_ | refine next_ret ?_ | refine inb_ret ?_))
    (apply ends_ok; (case h1 => simp; exact is_rfl); (case h2 => simp; exact is_rfl))
    have : ¬ RightP S B := fun h => h2 h.2.1
    simp [this]
  have e2 : ¬ ((256 : Int) < S.length) := by omega
  (repeat (first
    | (apply is_ok; (case hw => simp [e1, e2]); (case he => simp [e1, e2]; exact is_rfl))
    | (apply op_no; (case hw => simp [e1, e2]))
    | refine op_nil ?_ | refine next_normal ?_ | refine go_seq ?_ | refine go_region ?_ | refine go_skip ?_ | refine go_block ?_ | refine inb_normal ?_
    | (apply go_yes; (case hc => simp [e1, e2])) | (apply go_no; (case hc => simp [e1, e2]))
    | refine go_exit ?_ | refine next_exit ?_ | refine inb_here ?_ | refine inb_past (by decide) ?_ | refine go_ret ?_ | refine next_ret ?_ | refine inb_ret ?_))
  refine go_count S.length (fun i => [(1, .ptr 0 1 0 0), (3, .int .i64 i)]) (fun _ => [.box (drv S B)]) (fun i => ∀ j (hj : j < S.length), j < i → S[j].length = 128) (by simp) (by simp) fun i hi hI => ?_
  have hw : IntKind.i64.wrap ((i : Int) + 1) = (i : Int) + 1 := wrap_id (by omega) (by omega)
  by_cases hlt : i < S.length
  · by_cases h3 : S[i].length = 128
    · have e3 : ((S[i].length : Int) = 128) := by omega
      (repeat (first
    | (apply is_ok; (case hw => simp [hlt, h3, e3]); (case he => simp [hlt, h3, e3]; exact is_rfl))
    | (apply op_no; (case hw => simp [hlt, h3, e3]))
    | refine op_nil ?_ | refine next_normal ?_ | refine go_seq ?_ | refine go_region ?_ | refine go_skip ?_ | refine go_block ?_ | refine inb_normal ?_
    | (apply go_yes; (case hc => simp [hlt, h3, e3])) | (apply go_no; (case hc => simp [hlt, h3, e3]))
    | refine go_exit ?_ | refine next_exit ?_ | refine inb_here ?_ | refine inb_past (by decide) ?_ | refine go_ret ?_ | refine next_ret ?_ | refine inb_ret ?_))
      exact ⟨hlt, by simp [hw], fun j hj hji => by
        by_cases hje : j = i
        · subst hje; exact h3
        · exact hI j hj (by omega)⟩
    · have e3 : ¬ ((S[i].length : Int) = 128) := by omega
      (repeat (first
    | (apply is_ok; (case hw => simp [hlt, h3, e3]); (case he => simp [hlt, h3, e3]; exact is_rfl))
    | (apply op_no; (case hw => simp [hlt, h3, e3]))
    | refine op_nil ?_ | refine next_normal ?_ | refine go_seq ?_ | refine go_region ?_ | refine go_skip ?_ | refine go_block ?_ | refine inb_normal ?_
    | (apply go_yes; (case hc => simp [hlt, h3, e3])) | (apply go_no; (case hc => simp [hlt, h3, e3]))
    | refine go_exit ?_ | refine next_exit ?_ | refine inb_here ?_ | refine inb_past (by decide) ?_ | refine go_ret ?_ | refine next_ret ?_ | refine inb_ret ?_))
      (apply ends_ok; (case h1 => simp; exact is_rfl); (case h2 => simp; exact is_rfl))
      have : ¬ RightP S B := fun h => h3 (h.2.2.1 _ (List.getElem_mem hlt))
      simp [this]
  clear hw
  (repeat (first
    | (apply is_ok; (case hw => simp [hlt]); (case he => simp [hlt]; exact is_rfl))
    | (apply op_no; (case hw => simp [hlt]))
    | refine op_nil ?_ | refine next_normal ?_ | refine go_seq ?_ | refine go_region ?_ | refine go_skip ?_ | refine go_block ?_ | refine inb_normal ?_
    | (apply go_yes; (case hc => simp [hlt])) | (apply go_no; (case hc => simp [hlt]))
    | refine go_exit ?_ | refine next_exit ?_ | refine inb_here ?_ | refine inb_past (by decide) ?_ | refine go_ret ?_ | refine next_ret ?_ | refine inb_ret ?_))
  have hS : ∀ s ∈ S, s.length = 128 := fun s hs => by
    obtain ⟨j, hj, rfl⟩ := List.getElem_of_mem hs
    exact hI j hj (by omega)
  clear hlt hI hi
  refine go_count B.length (fun i => [(1, .ptr 0 1 0 0), (4, .int .i64 i)]) (fun _ => [.box (drv S B)]) (fun i => ∀ j (hj : j < B.length), j < i → 0 ≤ B[j] ∧ B[j] < S.length ∧ (1 ≤ j → B.getD (j - 1) 0 < B[j])) (by simp) (by simp) fun k hk hI => ?_
  by_cases hlt : k < B.length
  · have hw : IntKind.i64.wrap ((k : Int) + 1) = (k : Int) + 1 := wrap_id (by omega) (by omega)
    by_cases h3 : 0 ≤ B[k]
    case neg =>
      have e3 : B[k] < 0 := by omega
      (repeat (first
    | (apply is_ok; (case hw => simp [hlt, h3, e3]); (case he => simp [hlt, h3, e3]; exact is_rfl))
    | (apply op_no; (case hw => simp [hlt, h3, e3]))
    | refine op_nil ?_ | refine next_normal ?_ | refine go_seq ?_ | refine go_region ?_ | refine go_skip ?_ | refine go_block ?_ | refine inb_normal ?_
    | (apply go_yes; (case hc => simp [hlt, h3, e3])) | (apply go_no; (case hc => simp [hlt, h3, e3]))
    | refine go_exit ?_ | refine next_exit ?_ | refine inb_here ?_ | refine inb_past (by decide) ?_ | refine go_ret ?_ | refine next_ret ?_ | refine inb_ret ?_))
      (apply ends_ok; (case h1 => simp; exact is_rfl); (case h2 => simp; exact is_rfl))
      have : ¬ RightP S B := fun h => h3 (h.2.2.2.1 _ (List.getElem_mem hlt)).1
      simp [this]
    have e3 : ¬ (B[k] < 0) := by omega
    by_cases h4 : B[k] < S.length
    case neg =>
      have e4 : (S.length : Int) ≤ B[k] := by omega
      (repeat (first
    | (apply is_ok; (case hw => simp [hlt, h3, e3, h4, e4]); (case he => simp [hlt, h3, e3, h4, e4]; exact is_rfl))
    | (apply op_no; (case hw => simp [hlt, h3, e3, h4, e4]))
    | refine op_nil ?_ | refine next_normal ?_ | refine go_seq ?_ | refine go_region ?_ | refine go_skip ?_ | refine go_block ?_ | refine inb_normal ?_
    | (apply go_yes; (case hc => simp [hlt, h3, e3, h4, e4])) | (apply go_no; (case hc => simp [hlt, h3, e3, h4, e4]))
    | refine go_exit ?_ | refine next_exit ?_ | refine inb_here ?_ | refine inb_past (by decide) ?_ | refine go_ret ?_ | refine next_ret ?_ | refine inb_ret ?_))
      (apply ends_ok; (case h1 => simp; exact is_rfl); (case h2 => simp; exact is_rfl))
      have : ¬ RightP S B := fun h => h4 (h.2.2.2.1 _ (List.getElem_mem hlt)).2
      simp [this]
    have e4 : ¬ ((S.length : Int) ≤ B[k]) := by omega
    by_cases h5 : 0 < k
    · have hlt' : k - 1 < B.length := by omega
      have hw1 : IntKind.i64.wrap ((k : Int) - 1) = ((k - 1 : Nat) : Int) := by rw [wrap_id (by omega) (by omega)]; omega
      by_cases h6 : B[k - 1] < B[k]
      · have e6 : ¬ (B[k] ≤ B[k - 1]) := by omega
        (repeat (first
    | (apply is_ok; (case hw => simp [hlt, h3, e3, h4, e4, h5, hlt', hw1, h6, e6]); (case he => simp [hlt, h3, e3, h4, e4, h5, hlt', hw1, h6, e6]; exact is_rfl))
    | (apply op_no; (case hw => simp [hlt, h3, e3, h4, e4, h5, hlt', hw1, h6, e6]))
    | refine op_nil ?_ | refine next_normal ?_ | refine go_seq ?_ | refine go_region ?_ | refine go_skip ?_ | refine go_block ?_ | refine inb_normal ?_
    | (apply go_yes; (case hc => simp [hlt, h3, e3, h4, e4, h5, hlt', hw1, h6, e6])) | (apply go_no; (case hc => simp [hlt, h3, e3, h4, e4, h5, hlt', hw1, h6, e6]))
    | refine go_exit ?_ | refine next_exit ?_ | refine inb_here ?_ | refine inb_past (by decide) ?_ | refine go_ret ?_ | refine next_ret ?_ | refine inb_ret ?_))
        exact ⟨hlt, by simp [hw], fun j hj hji => by
          by_cases hje : j = k
          · subst hje; exact ⟨h3, h4, fun _ => by simpa [hlt'] using h6⟩
          · exact hI j hj (by omega)⟩
      · have e6 : (B[k] ≤ B[k - 1]) := by omega
        (repeat (first
    | (apply is_ok; (case hw => simp [hlt, h3, e3, h4, e4, h5, hlt', hw1, h6, e6]); (case he => simp [hlt, h3, e3, h4, e4, h5, hlt', hw1, h6, e6]; exact is_rfl))
    | (apply op_no; (case hw => simp [hlt, h3, e3, h4, e4, h5, hlt', hw1, h6, e6]))
    | refine op_nil ?_ | refine next_normal ?_ | refine go_seq ?_ | refine go_region ?_ | refine go_skip ?_ | refine go_block ?_ | refine inb_normal ?_
    | (apply go_yes; (case hc => simp [hlt, h3, e3, h4, e4, h5, hlt', hw1, h6, e6])) | (apply go_no; (case hc => simp [hlt, h3, e3, h4, e4, h5, hlt', hw1, h6, e6]))
    | refine go_exit ?_ | refine next_exit ?_ | refine inb_here ?_ | refine inb_past (by decide) ?_ | refine go_ret ?_ | refine next_ret ?_ | refine inb_ret ?_))
        (apply ends_ok; (case h1 => simp; exact is_rfl); (case h2 => simp; exact is_rfl))
        have : ¬ RightP S B := fun h => by
          have := h.2.2.2.2 k (List.mem_range.2 hlt) h5
          simp [hlt, hlt'] at this
          omega
        simp [this]
    · (repeat (first
    | (apply is_ok; (case hw => simp [hlt, h3, e3, h4, e4, h5]); (case he => simp [hlt, h3, e3, h4, e4, h5]; exact is_rfl))
    | (apply op_no; (case hw => simp [hlt, h3, e3, h4, e4, h5]))
    | refine op_nil ?_ | refine next_normal ?_ | refine go_seq ?_ | refine go_region ?_ | refine go_skip ?_ | refine go_block ?_ | refine inb_normal ?_
    | (apply go_yes; (case hc => simp [hlt, h3, e3, h4, e4, h5])) | (apply go_no; (case hc => simp [hlt, h3, e3, h4, e4, h5]))
    | refine go_exit ?_ | refine next_exit ?_ | refine inb_here ?_ | refine inb_past (by decide) ?_ | refine go_ret ?_ | refine next_ret ?_ | refine inb_ret ?_))
      exact ⟨hlt, by simp [hw], fun j hj hji => by
        by_cases hje : j = k
        · subst hje; exact ⟨h3, h4, fun _ => by omega⟩
        · exact hI j hj (by omega)⟩
  · (repeat (first
    | (apply is_ok; (case hw => simp [hlt]); (case he => simp [hlt]; exact is_rfl))
    | (apply op_no; (case hw => simp [hlt]))
    | refine op_nil ?_ | refine next_normal ?_ | refine go_seq ?_ | refine go_region ?_ | refine go_skip ?_ | refine go_block ?_ | refine inb_normal ?_
    | (apply go_yes; (case hc => simp [hlt])) | (apply go_no; (case hc => simp [hlt]))
    | refine go_exit ?_ | refine next_exit ?_ | refine inb_here ?_ | refine inb_past (by decide) ?_ | refine go_ret ?_ | refine next_ret ?_ | refine inb_ret ?_))
    (apply ends_ok; (case h1 => simp; exact is_rfl); (case h2 => simp; exact is_rfl))
    have : RightP S B := ⟨h1, h2, hS, fun b hb => by
      obtain ⟨j, hj, rfl⟩ := List.getElem_of_mem hb
      exact ⟨(hI j hj (by omega)).1, (hI j hj (by omega)).2.1⟩, fun j hj h => by
      have hj' := List.mem_range.1 hj
      have := (hI j hj' (by omega)).2.2 h
      simpa [hj'] using this⟩
    simp [this]
end Go.Abs

namespace Go.Abs
open Go.Proofs
set_option maxRecDepth 100000
set_option linter.unusedSimpArgs false

theorem Right_eq (S : List (List UInt8)) (B : List Int) (hB : B.length ≤ maxLen) : bodyW DC 76 [drv S B] [] = some (.bool (decide (RightP S B)), []) := by
  unfold maxLen at hB
  (refine gives_iff ?_; refine go_func Try.f76 rfl rfl (by simp [Try.f76]) ?_; dsimp only [codeL, Try.f76, scL, sopsL, guardL, dstAt, loopKey])
  by_cases h1 : 1 ≤ S.length
  case neg =>
    have e1 : ((S.length : Int) < 1) := by omega
    (repeat (first
    | (apply is_ok; (case hw => simp [e1]); (case he => simp [e1]; exact is_rfl))
    | (apply op_no; (case hw => simp [e1]))
    | refine op_nil ?_ | refine next_normal ?_ | refine go_seq ?_ | refine go_region ?_ | refine go_skip ?_ | refine go_block ?_ | refine inb_normal ?_
    | (apply go_yes; (case hc => simp [e1])) | (apply go_no; (case hc => simp [e1]))
    | refine go_exit ?_ | refine next_exit ?_ | refine inb_here ?_ | refine inb_past (by decide) ?_ | refine go_ret ?_ | refine next_ret ?_ | refine inb_ret ?_))
    (apply ends_ok; (case h1 => simp; exact is_rfl); (case h2 => simp; exact is_rfl))
    have : ¬ RightP S B := fun h => h1 h.1
    simp [this]
  have e1 : ¬ ((S.length : Int) < 1) := by omega
  by_cases h2 : S.length ≤ 256
  case neg =>
    have e2 : ((256 : Int) < S.length) := by omega
    (repeat (first
    | (apply is_ok; (case hw => simp [e1, e2]); (case he => simp [e1, e2]; exact is_rfl))
    | (apply op_no; (case hw => simp [e1, e2]))
    | refine op_nil ?_ | refine next_normal ?_ | refine go_seq ?_ | refine go_region ?_ | refine go_skip ?_ | refine go_block ?_ | refine inb_normal ?_
    | (apply go_yes; (case hc => simp [e1, e2])) | (apply go_no; (case hc => simp [e1, e2]))
    | refine go_exit ?_ | refine next_exit ?_ | refine inb_here ?_ | refine inb_past (by decide) ?_ | refine go_ret ?_ | refine next_ret ?_ | refine inb_ret ?_))
    (apply ends_ok; (case h1 => simp; exact is_rfl); (case h2 => simp; exact is_rfl))
    have : ¬ RightP S B := fun h => h2 h.2.1
    simp [this]
  have e2 : ¬ ((256 : Int) < S.length) := by omega
  (repeat (first
    | (apply is_ok; (case hw => simp [e1, e2]); (case he => simp [e1, e2]; exact is_rfl))
    | (apply op_no; (case hw => simp [e1, e2]))
    | refine op_nil ?_ | refine next_normal ?_ | refine go_seq ?_ | refine go_region ?_ | refine go_skip ?_ | refine go_block ?_ | refine inb_normal ?_
    | (apply go_yes; (case hc => simp [e1, e2])) | (apply go_no; (case hc => simp [e1, e2]))
    | refine go_exit ?_ | refine next_exit ?_ | refine inb_here ?_ | refine inb_past (by decide) ?_ | refine go_ret ?_ | refine next_ret ?_ | refine inb_ret ?_))
  refine go_count S.length (fun i => [(1, .ptr 0 1 0 0), (19, .sl (strs S)), (20, .int .i64 S.length), (21, .int .i64 i)]) (fun _ => [.box (drv S B)]) (fun i => ∀ j (hj : j < S.length), j < i → S[j].length = 128) (by simp) (by simp) fun i hi hI => ?_
  have hw : IntKind.i64.wrap ((i : Int) + 1) = (i : Int) + 1 := wrap_id (by omega) (by omega)
  by_cases hlt : i < S.length
  · by_cases h3 : S[i].length = 128
    · have e3 : ((S[i].length : Int) = 128) := by omega
      (repeat (first
    | (apply is_ok; (case hw => simp [hlt, h3, e3]); (case he => simp [hlt, h3, e3]; exact is_rfl))
    | (apply op_no; (case hw => simp [hlt, h3, e3]))
    | refine op_nil ?_ | refine next_normal ?_ | refine go_seq ?_ | refine go_region ?_ | refine go_skip ?_ | refine go_block ?_ | refine inb_normal ?_
    | (apply go_yes; (case hc => simp [hlt, h3, e3])) | (apply go_no; (case hc => simp [hlt, h3, e3]))
    | refine go_exit ?_ | refine next_exit ?_ | refine inb_here ?_ | refine inb_past (by decide) ?_ | refine go_ret ?_ | refine next_ret ?_ | refine inb_ret ?_))
      exact ⟨hlt, by simp [hw], fun j hj hji => by
        by_cases hje : j = i
        · subst hje; exact h3
        · exact hI j hj (by omega)⟩
    · have e3 : ¬ ((S[i].length : Int) = 128) := by omega
      (repeat (first
    | (apply is_ok; (case hw => simp [hlt, h3, e3]); (case he => simp [hlt, h3, e3]; exact is_rfl))
    | (apply op_no; (case hw => simp [hlt, h3, e3]))
    | refine op_nil ?_ | refine next_normal ?_ | refine go_seq ?_ | refine go_region ?_ | refine go_skip ?_ | refine go_block ?_ | refine inb_normal ?_
    | (apply go_yes; (case hc => simp [hlt, h3, e3])) | (apply go_no; (case hc => simp [hlt, h3, e3]))
    | refine go_exit ?_ | refine next_exit ?_ | refine inb_here ?_ | refine inb_past (by decide) ?_ | refine go_ret ?_ | refine next_ret ?_ | refine inb_ret ?_))
      (apply ends_ok; (case h1 => simp; exact is_rfl); (case h2 => simp; exact is_rfl))
      have : ¬ RightP S B := fun h => h3 (h.2.2.1 _ (List.getElem_mem hlt))
      simp [this]
  clear hw
  (repeat (first
    | (apply is_ok; (case hw => simp [hlt]); (case he => simp [hlt]; exact is_rfl))
    | (apply op_no; (case hw => simp [hlt]))
    | refine op_nil ?_ | refine next_normal ?_ | refine go_seq ?_ | refine go_region ?_ | refine go_skip ?_ | refine go_block ?_ | refine inb_normal ?_
    | (apply go_yes; (case hc => simp [hlt])) | (apply go_no; (case hc => simp [hlt]))
    | refine go_exit ?_ | refine next_exit ?_ | refine inb_here ?_ | refine inb_past (by decide) ?_ | refine go_ret ?_ | refine next_ret ?_ | refine inb_ret ?_))
  have hS : ∀ s ∈ S, s.length = 128 := fun s hs => by
    obtain ⟨j, hj, rfl⟩ := List.getElem_of_mem hs
    exact hI j hj (by omega)
  clear hlt hI hi
  refine go_count B.length (fun k => [(1, .ptr 0 1 0 0), (5, .int .i64 (if k = 0 then -1 else B.getD (k - 1) 0)), (30, .sl (ints B)), (31, .int .i64 B.length), (32, .int .i64 k)]) (fun _ => [.box (drv S B)])
    (fun k => ∀ j (hj : j < B.length), j < k → 0 ≤ B[j] ∧ B[j] < S.length ∧ (1 ≤ j → B.getD (j - 1) 0 < B[j])) (by simp) (by simp) fun k hk hI => ?_
  by_cases hlt : k < B.length
  · have hw : IntKind.i64.wrap ((k : Int) + 1) = (k : Int) + 1 := wrap_id (by omega) (by omega)
    have hl : (if k = 0 then (-1 : Int) else B.getD (k - 1) 0) ≥ -1 := by
      split
      · omega
      · have hlt' : k - 1 < B.length := by omega
        have := (hI (k - 1) hlt' (by omega)).1
        simp [hlt']; omega
    generalize hL : (if k = 0 then (-1 : Int) else B.getD (k - 1) 0) = L at hl
    by_cases h3 : B[k] ≤ L
    case pos =>
      (repeat (first
    | (apply is_ok; (case hw => simp [hlt, h3]); (case he => simp [hlt, h3]; exact is_rfl))
    | (apply op_no; (case hw => simp [hlt, h3]))
    | refine op_nil ?_ | refine next_normal ?_ | refine go_seq ?_ | refine go_region ?_ | refine go_skip ?_ | refine go_block ?_ | refine inb_normal ?_
    | (apply go_yes; (case hc => simp [hlt, h3])) | (apply go_no; (case hc => simp [hlt, h3]))
    | refine go_exit ?_ | refine next_exit ?_ | refine inb_here ?_ | refine inb_past (by decide) ?_ | refine go_ret ?_ | refine next_ret ?_ | refine inb_ret ?_))
      (apply ends_ok; (case h1 => simp; exact is_rfl); (case h2 => simp; exact is_rfl))
      have : ¬ RightP S B := fun h => by
        have h0 := (h.2.2.2.1 _ (List.getElem_mem hlt)).1
        by_cases hk0 : k = 0
        · rw [if_pos hk0] at hL; omega
        · rw [if_neg hk0] at hL
          have := h.2.2.2.2 k (List.mem_range.2 hlt) (by omega)
          have e : B.getD k 0 = B[k] := by simp [hlt]
          omega
      simp [this]
    by_cases h4 : B[k] < S.length
    case neg =>
      have e4 : (S.length : Int) ≤ B[k] := by omega
      (repeat (first
    | (apply is_ok; (case hw => simp [hlt, h3, h4, e4]); (case he => simp [hlt, h3, h4, e4]; exact is_rfl))
    | (apply op_no; (case hw => simp [hlt, h3, h4, e4]))
    | refine op_nil ?_ | refine next_normal ?_ | refine go_seq ?_ | refine go_region ?_ | refine go_skip ?_ | refine go_block ?_ | refine inb_normal ?_
    | (apply go_yes; (case hc => simp [hlt, h3, h4, e4])) | (apply go_no; (case hc => simp [hlt, h3, h4, e4]))
    | refine go_exit ?_ | refine next_exit ?_ | refine inb_here ?_ | refine inb_past (by decide) ?_ | refine go_ret ?_ | refine next_ret ?_ | refine inb_ret ?_))
      (apply ends_ok; (case h1 => simp; exact is_rfl); (case h2 => simp; exact is_rfl))
      have : ¬ RightP S B := fun h => h4 (h.2.2.2.1 _ (List.getElem_mem hlt)).2
      simp [this]
    have e4 : ¬ ((S.length : Int) ≤ B[k]) := by omega
    (repeat (first
    | (apply is_ok; (case hw => simp [hlt, h3, h4, e4]); (case he => simp [hlt, h3, h4, e4]; exact is_rfl))
    | (apply op_no; (case hw => simp [hlt, h3, h4, e4]))
    | refine op_nil ?_ | refine next_normal ?_ | refine go_seq ?_ | refine go_region ?_ | refine go_skip ?_ | refine go_block ?_ | refine inb_normal ?_
    | (apply go_yes; (case hc => simp [hlt, h3, h4, e4])) | (apply go_no; (case hc => simp [hlt, h3, h4, e4]))
    | refine go_exit ?_ | refine next_exit ?_ | refine inb_here ?_ | refine inb_past (by decide) ?_ | refine go_ret ?_ | refine next_ret ?_ | refine inb_ret ?_))
    exact ⟨hlt, by simp [hw, hlt], fun j hj hji => by
      by_cases hje : j = k
      · subst hje
        refine ⟨by omega, h4, fun h => ?_⟩
        rw [if_neg (by omega)] at hL
        omega
      · exact hI j hj (by omega)⟩
  · (repeat (first
    | (apply is_ok; (case hw => simp [hlt]); (case he => simp [hlt]; exact is_rfl))
    | (apply op_no; (case hw => simp [hlt]))
    | refine op_nil ?_ | refine next_normal ?_ | refine go_seq ?_ | refine go_region ?_ | refine go_skip ?_ | refine go_block ?_ | refine inb_normal ?_
    | (apply go_yes; (case hc => simp [hlt])) | (apply go_no; (case hc => simp [hlt]))
    | refine go_exit ?_ | refine next_exit ?_ | refine inb_here ?_ | refine inb_past (by decide) ?_ | refine go_ret ?_ | refine next_ret ?_ | refine inb_ret ?_))
    (apply ends_ok; (case h1 => simp; exact is_rfl); (case h2 => simp; exact is_rfl))
    have : RightP S B := ⟨h1, h2, hS, fun b hb => by
      obtain ⟨j, hj, rfl⟩ := List.getElem_of_mem hb
      exact ⟨(hI j hj (by omega)).1, (hI j hj (by omega)).2.1⟩, fun j hj h => by
      have hj' := List.mem_range.1 hj
      have := (hI j hj' (by omega)).2.2 h
      simpa [hj'] using this⟩
    simp [this]

end Go.Abs

namespace Go.Abs
open Go.Proofs
set_option maxRecDepth 100000
set_option linter.unusedSimpArgs false
set_option linter.unusedVariables false

theorem map_of {α : Type} {es : List V} {f : α → V} {p : α → Prop} (h : ∀ x ∈ es, ∃ a, x = f a ∧ p a) : ∃ l : List α, es = l.map f ∧ ∀ a ∈ l, p a := by
  induction es with
  | nil => exact ⟨[], rfl, by simp⟩
  | cons x es ih =>
    obtain ⟨l, rfl, h2⟩ := ih fun y hy => h y (List.mem_cons_of_mem _ hy)
    obtain ⟨a, rfl, h3⟩ := h x (List.mem_cons_self ..)
    exact ⟨a :: l, rfl, fun b hb => by
      rcases List.mem_cons.1 hb with rfl | hb
      · exact h3
      · exact h2 b hb⟩

theorem cells_one {x : V} (h : x.isAgg = false) : x.cells = [x] := by cases x <;> first | rfl | cases h
theorem cells_some {x : V} (h : x.isAgg = true) : ∃ cs, x = .agg cs := by cases x <;> first | exact ⟨_, rfl⟩ | cases h

section
variable {P : Program} {n : Nat} {t e : TypeId} {x : V}
theorem hasT_pos {xs : List V} (h : HasT P n t xs) : ∃ m, n = m + 1 := by
  cases n with
  | zero => exact h.elim
  | succ m => exact ⟨m, rfl⟩
theorem hasT_int {k : IntKind} (hu : P.underlying t = some (.int k)) {xs : List V} (h : HasT P n t xs) : ∃ m, xs = [.int k m] ∧ (Lit.int k m).wf = true := by
  obtain ⟨m, rfl⟩ := hasT_pos h
  simpa only [HasT, hu] using h
theorem hasT_str (hu : P.underlying t = some .string) {xs : List V} (h : HasT P n t xs) : ∃ s : List UInt8, xs = [.str s] ∧ s.length ≤ maxLen := by
  obtain ⟨m, rfl⟩ := hasT_pos h
  simpa only [HasT, hu] using h
theorem hasT_bool (hu : P.underlying t = some .bool) {xs : List V} (h : HasT P n t xs) : ∃ b, xs = [.bool b] := by
  obtain ⟨m, rfl⟩ := hasT_pos h
  simpa only [HasT, hu] using h
theorem hasT_slice (hu : P.underlying t = some (.slice e)) (hc : P.cellsOf e ≠ 0) {xs : List V} (h : HasT P n t xs) : ∃ m es, n = m + 1 ∧ xs = [.sl es] ∧ es.length ≤ maxLen ∧ ∀ x ∈ es, aggT P e = some x.isAgg ∧ HasT P m e x.cells := by
  obtain ⟨m, rfl⟩ := hasT_pos h
  simp only [HasT, hu, if_neg hc] at h
  obtain ⟨es, h1, h2, h3⟩ := h
  exact ⟨m, es, rfl, h1, h2, h3⟩
theorem hasT_strs (hu : P.underlying t = some (.slice e)) (hc : P.cellsOf e ≠ 0) (he : P.underlying e = some .string) {xs : List V} (h : HasT P n t xs) : ∃ S : List (List UInt8), xs = [.sl (S.map V.str)] ∧ S.length ≤ maxLen ∧ ∀ s ∈ S, s.length ≤ maxLen := by
  obtain ⟨m, es, rfl, rfl, h1, h2⟩ := hasT_slice hu hc h
  have hag : aggT P e = some false := by simp [aggT, he]
  obtain ⟨S, rfl, h3⟩ := map_of (p := fun s => s.length ≤ maxLen) (f := V.str) fun x hx => by
    obtain ⟨h3, h4⟩ := h2 x hx
    rw [hag] at h3
    obtain ⟨s, h5, h6⟩ := hasT_str he h4
    rw [cells_one (Option.some.inj h3).symm] at h5
    cases h5
    exact ⟨s, rfl, h6⟩
  exact ⟨S, rfl, by simpa using h1, h3⟩
theorem hasT_ints {k : IntKind} (hu : P.underlying t = some (.slice e)) (hc : P.cellsOf e ≠ 0) (he : P.underlying e = some (.int k)) {xs : List V} (h : HasT P n t xs) : ∃ S : List Int, xs = [.sl (S.map (V.int k))] ∧ S.length ≤ maxLen ∧ ∀ s ∈ S, (Lit.int k s).wf = true := by
  obtain ⟨m, es, rfl, rfl, h1, h2⟩ := hasT_slice hu hc h
  have hag : aggT P e = some false := by simp [aggT, he]
  obtain ⟨S, rfl, h3⟩ := map_of (p := fun s => (Lit.int k s).wf = true) (f := V.int k) fun x hx => by
    obtain ⟨h3, h4⟩ := h2 x hx
    rw [hag] at h3
    obtain ⟨s, h5, h6⟩ := hasT_int he h4
    rw [cells_one (Option.some.inj h3).symm] at h5
    cases h5
    exact ⟨s, rfl, h6⟩
  exact ⟨S, rfl, by simpa using h1, h3⟩
theorem hasT_struct {fs : Array Field} (hu : P.underlying t = some (.struct fs)) {xs : List V} (h : HasT P n t xs) : ∃ m, n = m + 1 ∧ xs.length = P.cellsOf t ∧ ∀ (i : Nat) (f : Field), fs[i]? = some f → HasT P m f.type ((xs.drop f.offset).take (P.cellsOf f.type)) := by
  obtain ⟨m, rfl⟩ := hasT_pos h
  simp only [HasT, hu] at h
  exact ⟨m, rfl, h.1, fun i f hf => h.2 f (by simpa using Array.mem_of_getElem? hf)⟩
theorem int_of {k : IntKind} (hu : P.underlying t = some (.int k)) (h : ArgT P t x) : ∃ m, x = .int k m ∧ (Lit.int k m).wf = true := by
  obtain ⟨n, h1, h2⟩ := h
  rw [show aggT P t = some false by simp [aggT, hu]] at h2
  rw [cells_one (Option.some.inj h2).symm] at h1
  obtain ⟨m, h3, h4⟩ := hasT_int hu h1
  cases h3
  exact ⟨m, rfl, h4⟩
theorem str_of (hu : P.underlying t = some .string) (h : ArgT P t x) : ∃ s : List UInt8, x = .str s ∧ s.length ≤ maxLen := by
  obtain ⟨n, h1, h2⟩ := h
  rw [show aggT P t = some false by simp [aggT, hu]] at h2
  rw [cells_one (Option.some.inj h2).symm] at h1
  obtain ⟨m, h3, h4⟩ := hasT_str hu h1
  cases h3
  exact ⟨m, rfl, h4⟩
theorem wf_i64 {m : Int} (h : (Lit.int .i64 m).wf = true) : -9223372036854775808 ≤ m ∧ m ≤ 9223372036854775807 := by
  simpa [Lit.wf, IntKind.min, IntKind.max, IntKind.signed, IntKind.bits] using h
end

theorem cells_ne {P : Program} {e : TypeId} {n : Nat} (h : P.cellsOf e = n) (hn : n ≠ 0) : P.cellsOf e ≠ 0 := by rw [h]; exact hn

theorem drv_cells {n : Nat} {cs : List V} (h : HasT Try.prog n 34 cs) : ∃ S B, cs = [.sl (strs S), .sl (ints B)] ∧ S.length ≤ maxLen ∧ B.length ≤ maxLen := by
  obtain ⟨m, rfl, h1, h2⟩ := hasT_struct Try.underlying34 h
  have hl : cs.length = 2 := h1.trans (by kernel_rfl)
  match cs, hl with
  | [a, b], _ =>
    have f0 := h2 0 _ rfl
    have f1 := h2 1 _ rfl
    obtain ⟨S, e1, hS, _⟩ := hasT_strs Try.underlying31 (cells_ne (n := 1) (by kernel_rfl) (by decide)) Try.underlying9 f0
    obtain ⟨B, e2, hB, _⟩ := hasT_ints Try.underlying32 (cells_ne (n := 1) (by kernel_rfl) (by decide)) Try.underlying3 f1
    have e1' : [a] = [V.sl (strs S)] := e1
    have e2' : [b] = [V.sl (ints B)] := e2
    cases e1'
    cases e2'
    exact ⟨S, B, rfl, hS, hB⟩
theorem drv_of {x : V} (h : ArgT Try.prog 34 x) : ∃ S B, x = drv S B ∧ S.length ≤ maxLen ∧ B.length ≤ maxLen := by
  obtain ⟨n, h1, h2⟩ := h
  rw [show aggT Try.prog 34 = some true by kernel_rfl] at h2
  obtain ⟨cs, rfl⟩ := cells_some (Option.some.inj h2).symm
  obtain ⟨S, B, h3, h4⟩ := drv_cells h1
  cases h3
  exact ⟨S, B, rfl, h4⟩

end Go.Abs

namespace Go.Abs
open Go.Proofs
set_option maxRecDepth 100000
set_option linter.unusedSimpArgs false
set_option linter.unusedVariables false

@[simp] theorem sealL_ints (H : Heap) (k : IntKind) (L : List Int) : sealL H (L.map (V.int k)) = some (L.map (V.int k), []) := by
  induction L with
  | nil => rfl
  | cons a L ih => simp [ih]
@[simp] theorem sealL_strs (H : Heap) (L : List (List UInt8)) : sealL H (L.map V.str) = some (L.map V.str, []) := by
  induction L with
  | nil => rfl
  | cons a L ih => simp [ih]

section
variable {P : Program}
@[simp] theorem binV_ii (op : BinOp) (t : TypeId) (k k' : IntKind) (a b : Int) : binV P op t (.int k a) (.int k' b) = if isShift op then shiftOp op k a b else if k = k' then intOp op k a b else none := rfl
@[simp] theorem binV_ss (op : BinOp) (t : TypeId) (a b : List UInt8) : binV P op t (.str a) (.str b) = strOp op a b := rfl
@[simp] theorem binV_bb (op : BinOp) (t : TypeId) (a b : Bool) : binV P op t (.bool a) (.bool b) = if P.underlying t matches some .bool then match op with
    | .eql => some (.bool (a == b))
    | .neq => some (.bool (!(a == b)))
    | _ => none
    else none := rfl
end

/-- The value of an encoding, its cells told. -/
theorem parseV_shape (s : List UInt8) : ∃ k l z a b c d e f g h, parseV s = .agg [.int .i64 k, .int .i64 l, .int .i64 z, .int .i64 a, .int .i64 b, .int .i64 c, .int .i64 d, .int .i64 e, .int .i64 f, .int .i64 g, .int .i64 h] ∧ In64 [k, l, z, a, b, c, d, e, f, g, h] := by
  unfold parseV
  split
  · exact ⟨_, _, _, _, _, _, _, _, _, _, _, rfl, in64_wd s⟩
  · exact ⟨0, 0, 0, 0, 0, 0, 0, 0, 0, 0, 0, rfl, by intro x hx; simp at hx; omega⟩
theorem same_ino (k l z a b c d e f g h : Int) : binV Try.prog .eql 24 (.agg [.int .i64 k, .int .i64 l, .int .i64 z, .int .i64 a, .int .i64 b, .int .i64 c, .int .i64 d, .int .i64 e, .int .i64 f, .int .i64 g, .int .i64 h])
    (.agg [.int .i64 k, .int .i64 l, .int .i64 z, .int .i64 a, .int .i64 b, .int .i64 c, .int .i64 d, .int .i64 e, .int .i64 f, .int .i64 g, .int .i64 h]) = some (.bool true) := by
  have := (eq_ino k l z k l z [a, b, c, d, e, f, g, h] [a, b, c, d, e, f, g, h] rfl rfl).1
  rw [decide_eq_true ⟨rfl, rfl, rfl, rfl⟩] at this
  exact this

theorem InodeParses_eq (k l z : Int) (L : List Int) (hL : L.length = 8) (hX : In64 (k :: l :: z :: L)) (s : List UInt8) : bodyW DC 3 [inoV k l z L, .str s] [] = some (.bool true, []) := by
  by_cases hs : s.length ≤ 1000
  case neg =>
    have hs' : (1000 : Int) < s.length := by omega
    (refine gives_iff ?_; refine go_func Try.f3 rfl rfl (by simp [Try.f3]) ?_; dsimp only [codeL, Try.f3, scL, sopsL, guardL, dstAt, loopKey])
    (repeat (first
    | (apply is_ok; (case hw => simp [hL, hs']); (case he => simp [hL, hs']; exact is_rfl))
    | (apply op_no; (case hw => simp [hL, hs']))
    | refine op_nil ?_ | refine next_normal ?_ | refine go_seq ?_ | refine go_region ?_ | refine go_skip ?_ | refine go_block ?_ | refine inb_normal ?_
    | (apply go_yes; (case hc => simp [hL, hs'])) | (apply go_no; (case hc => simp [hL, hs']))
    | refine go_exit ?_ | refine next_exit ?_ | refine inb_here ?_ | refine inb_past (by decide) ?_ | refine go_ret ?_ | refine next_ret ?_ | refine inb_ret ?_))
    (apply ends_ok; (case h1 => simp; exact is_rfl); (case h2 => simp; exact is_rfl))
    simp
  have hs' : ¬ ((1000 : Int) < s.length) := by omega
  have hP := Parse_eq s
  have hP' := ParseR_eq s
  have hB := Bytes_eq k l z L hL hX
  have hB' := BytesR_eq k l z L hL hX
  have hA := alive38_eq
  obtain ⟨k', l', z', a, b, c, d, e, f, g, h, hv, _⟩ := parseV_shape s
  rw [hv] at hP hP'
  have hE := same_ino k' l' z' a b c d e f g h
  (refine gives_iff ?_; refine go_func Try.f3 rfl rfl (by simp [Try.f3]) ?_; dsimp only [codeL, Try.f3, scL, sopsL, guardL, dstAt, loopKey])
  (repeat (first
    | (apply is_ok; (case hw => simp [-binV, hL, hs', hP, hP', hB, hB', hA, hE]); (case he => simp [-binV, hL, hs', hP, hP', hB, hB', hA, hE]; exact is_rfl))
    | (apply op_no; (case hw => simp [-binV, hL, hs', hP, hP', hB, hB', hA, hE]))
    | refine op_nil ?_ | refine next_normal ?_ | refine go_seq ?_ | refine go_region ?_ | refine go_skip ?_ | refine go_block ?_ | refine inb_normal ?_
    | (apply go_yes; (case hc => simp [-binV, hL, hs', hP, hP', hB, hB', hA, hE])) | (apply go_no; (case hc => simp [-binV, hL, hs', hP, hP', hB, hB', hA, hE]))
    | refine go_exit ?_ | refine next_exit ?_ | refine inb_here ?_ | refine inb_past (by decide) ?_ | refine go_ret ?_ | refine next_ret ?_ | refine inb_ret ?_))
  (apply ends_ok; (case h1 => simp; exact is_rfl); (case h2 => simp; exact is_rfl))
  simp
/-- An inode's value. -/
theorem ino_of {x : V} (h : ArgT Try.prog 24 x) : ∃ k l z L, x = inoV k l z L ∧ L.length = 8 ∧ In64 (k :: l :: z :: L) := by
  obtain ⟨n, h1, h2⟩ := h
  rw [show aggT Try.prog 24 = some true by kernel_rfl] at h2
  obtain ⟨cs, rfl⟩ := cells_some (Option.some.inj h2).symm
  obtain ⟨m, rfl, h3, h4⟩ := hasT_struct Try.underlying24 h1
  have hl : cs.length = 11 := h3.trans (by kernel_rfl)
  match cs, hl with
  | [c0, c1, c2, c3, c4, c5, c6, c7, c8, c9, c10], _ =>
    obtain ⟨k, e0, i0⟩ := hasT_int Try.underlying3 (h4 0 _ rfl)
    obtain ⟨l, e1, i1⟩ := hasT_int Try.underlying3 (h4 1 _ rfl)
    obtain ⟨z, e2, i2⟩ := hasT_int Try.underlying3 (h4 2 _ rfl)
    have f3 := h4 3 _ rfl
    obtain ⟨m', rfl⟩ := hasT_pos f3
    simp only [HasT, Try.underlying22] at f3
    have hc : Try.prog.cellsOf 3 = 1 := by kernel_rfl
    have hc8 : Try.prog.cellsOf 22 = 8 := by kernel_rfl
    have hf := f3.2
    simp only [hc, hc8, Nat.mul_one] at hf
    obtain ⟨a, e3, i3⟩ := hasT_int Try.underlying3 (hf 0 (by decide))
    obtain ⟨b, e4, i4⟩ := hasT_int Try.underlying3 (hf 1 (by decide))
    obtain ⟨c, e5, i5⟩ := hasT_int Try.underlying3 (hf 2 (by decide))
    obtain ⟨d, e6, i6⟩ := hasT_int Try.underlying3 (hf 3 (by decide))
    obtain ⟨e, e7, i7⟩ := hasT_int Try.underlying3 (hf 4 (by decide))
    obtain ⟨f, e8, i8⟩ := hasT_int Try.underlying3 (hf 5 (by decide))
    obtain ⟨g, e9, i9⟩ := hasT_int Try.underlying3 (hf 6 (by decide))
    obtain ⟨h, e10, i10⟩ := hasT_int Try.underlying3 (hf 7 (by decide))
    have e0' : [c0] = [V.int .i64 k] := e0
    have e1' : [c1] = [V.int .i64 l] := e1
    have e2' : [c2] = [V.int .i64 z] := e2
    have e3' : [c3] = [V.int .i64 a] := e3
    have e4' : [c4] = [V.int .i64 b] := e4
    have e5' : [c5] = [V.int .i64 c] := e5
    have e6' : [c6] = [V.int .i64 d] := e6
    have e7' : [c7] = [V.int .i64 e] := e7
    have e8' : [c8] = [V.int .i64 f] := e8
    have e9' : [c9] = [V.int .i64 g] := e9
    have e10' : [c10] = [V.int .i64 h] := e10
    cases e0'; cases e1'; cases e2'; cases e3'; cases e4'; cases e5'; cases e6'; cases e7'; cases e8'; cases e9'; cases e10'
    refine ⟨k, l, z, [a, b, c, d, e, f, g, h], rfl, rfl, fun x hx => ?_⟩
    simp only [List.mem_cons, List.not_mem_nil, or_false] at hx
    rcases hx with rfl | rfl | rfl | rfl | rfl | rfl | rfl | rfl | rfl | rfl | rfl <;> first | exact wf_i64 i0 | exact wf_i64 i1 | exact wf_i64 i2 | exact wf_i64 i3 | exact wf_i64 i4 | exact wf_i64 i5 | exact wf_i64 i6 | exact wf_i64 i7 | exact wf_i64 i8 | exact wf_i64 i9 | exact wf_i64 i10
end Go.Abs

namespace Go.Abs
open Go.Proofs
set_option maxRecDepth 100000
set_option linter.unusedSimpArgs false

def wornK (B : List Int) : List Int := B.foldl (fun ks n => if n ∈ ks then ks else ks ++ [n]) []
theorem wornK_take {B : List Int} {i : Nat} (h : i < B.length) : wornK (B.take (i + 1)) = if B[i] ∈ wornK (B.take i) then wornK (B.take i) else wornK (B.take i) ++ [B[i]] := by
  unfold wornK
  rw [List.take_succ_eq_append_getElem h, List.foldl_append]
  rfl
theorem foldl_mem (k : Int) : ∀ (B ks : List Int), k ∈ B.foldl (fun ks n => if n ∈ ks then ks else ks ++ [n]) ks ↔ k ∈ ks ∨ k ∈ B
  | [], ks => by simp
  | b :: B, ks => by
    rw [List.foldl_cons, foldl_mem k B]
    by_cases h : b ∈ ks
    · rw [if_pos h]
      constructor
      · rintro (h1 | h1)
        · exact .inl h1
        · exact .inr (List.mem_cons_of_mem _ h1)
      · rintro (h1 | h1)
        · exact .inl h1
        · rcases List.mem_cons.1 h1 with rfl | h1
          · exact .inl h
          · exact .inr h1
    · rw [if_neg h]; simp [or_assoc]
theorem mem_worn {k : Int} {B : List Int} : k ∈ wornK B ↔ k ∈ B := by unfold wornK; rw [foldl_mem]; simp

theorem findK_ints (k : Int) (v : V) : ∀ (ks : List Int), findK (.int .i64 k) (ints ks) (List.replicate ks.length v) = some (if k ∈ ks then some v else none)
  | [] => by simp [findK]
  | c :: ks => by
    simp only [List.map_cons, List.length_cons, List.replicate_succ, findK, sameKey]
    by_cases h : k = c
    · subst h; simp
    · have : (k == c) = false := by simpa using h
      simp only [if_true, this]
      rw [findK_ints k v ks]
      simp [h]
theorem findK_worn (k : Int) (v : V) (B : List Int) : findK (.int .i64 k) (ints (wornK B)) (List.replicate (wornK B).length v) = some (if k ∈ B then some v else none) := by
  rw [findK_ints]
  simp only [mem_worn]
theorem setK_ints (k : Int) (v : V) : ∀ (ks : List Int), setK (.int .i64 k) v (ints ks) (List.replicate ks.length v) = List.replicate ks.length v
  | [] => by simp [setK]
  | c :: ks => by
    simp only [List.map_cons, List.length_cons, List.replicate_succ, setK, sameKey]
    by_cases h : k = c
    · subst h; simp
    · have : (k == c) = false := by simpa using h
      simp only [if_true, this]
      rw [setK_ints k v ks]

abbrev wornV (B : List Int) : V := .mapr (ints (wornK B)) (List.replicate (wornK B).length (.bool true))

theorem worn_eq (S : List (List UInt8)) (B : List Int) (hB : B.length ≤ maxLen) : bodyW DC 63 [drv S B] [] = some (.map 0, [.map true (ints (wornK B)) (List.replicate (wornK B).length (.bool true))]) := by
  unfold maxLen at hB
  (refine gives_iff ?_; refine go_func Try.f63 rfl rfl (by simp [Try.f63]) ?_; dsimp only [codeL, Try.f63, scL, sopsL, guardL, dstAt, loopKey])
  (repeat (first
    | (apply is_ok; (case hw => simp); (case he => simp; exact is_rfl))
    | (apply op_no; (case hw => simp))
    | refine op_nil ?_ | refine next_normal ?_ | refine go_seq ?_ | refine go_region ?_ | refine go_skip ?_ | refine go_block ?_ | refine inb_normal ?_
    | (apply go_yes; (case hc => simp)) | (apply go_no; (case hc => simp))
    | refine go_exit ?_ | refine next_exit ?_ | refine inb_here ?_ | refine inb_past (by decide) ?_ | refine go_ret ?_ | refine next_ret ?_ | refine inb_ret ?_))
  refine go_count B.length (fun i => [(3, .map 0), (8, .sl (ints B)), (9, .int .i64 B.length), (10, .int .i64 i)]) (fun i => [.map true (ints (wornK (B.take i))) (List.replicate (wornK (B.take i)).length (.bool true))]) (fun _ => True) (by simp [wornK]) trivial fun i hi _ => ?_
  by_cases hlt : i < B.length
  · have hw : IntKind.i64.wrap ((i : Int) + 1) = (i : Int) + 1 := wrap_id (by omega) (by omega)
    have hf := findK_ints B[i] (.bool true) (wornK (B.take i))
    have hs := setK_ints B[i] (.bool true) (wornK (B.take i))
    by_cases hm : B[i] ∈ wornK (B.take i)
    · rw [if_pos hm] at hf
      (repeat (first
    | (apply is_ok; (case hw => simp [hlt, hf, hs]); (case he => simp [hlt, hf, hs]; exact is_rfl))
    | (apply op_no; (case hw => simp [hlt, hf, hs]))
    | refine op_nil ?_ | refine next_normal ?_ | refine go_seq ?_ | refine go_region ?_ | refine go_skip ?_ | refine go_block ?_ | refine inb_normal ?_
    | (apply go_yes; (case hc => simp [hlt, hf, hs])) | (apply go_no; (case hc => simp [hlt, hf, hs]))
    | refine go_exit ?_ | refine next_exit ?_ | refine inb_here ?_ | refine inb_past (by decide) ?_ | refine go_ret ?_ | refine next_ret ?_ | refine inb_ret ?_))
      exact ⟨hlt, by simp [hw, wornK_take hlt, hm], trivial⟩
    · rw [if_neg hm] at hf
      (repeat (first
    | (apply is_ok; (case hw => simp [hlt, hf, hs]); (case he => simp [hlt, hf, hs]; exact is_rfl))
    | (apply op_no; (case hw => simp [hlt, hf, hs]))
    | refine op_nil ?_ | refine next_normal ?_ | refine go_seq ?_ | refine go_region ?_ | refine go_skip ?_ | refine go_block ?_ | refine inb_normal ?_
    | (apply go_yes; (case hc => simp [hlt, hf, hs])) | (apply go_no; (case hc => simp [hlt, hf, hs]))
    | refine go_exit ?_ | refine next_exit ?_ | refine inb_here ?_ | refine inb_past (by decide) ?_ | refine go_ret ?_ | refine next_ret ?_ | refine inb_ret ?_))
      exact ⟨hlt, by simp [hw, wornK_take hlt, hm, List.replicate_succ'], trivial⟩
  · have : i = B.length := by omega
    subst this
    rw [List.take_length]
    (repeat (first
    | (apply is_ok; (case hw => simp); (case he => simp; exact is_rfl))
    | (apply op_no; (case hw => simp))
    | refine op_nil ?_ | refine next_normal ?_ | refine go_seq ?_ | refine go_region ?_ | refine go_skip ?_ | refine go_block ?_ | refine inb_normal ?_
    | (apply go_yes; (case hc => simp)) | (apply go_no; (case hc => simp))
    | refine go_exit ?_ | refine next_exit ?_ | refine inb_here ?_ | refine inb_past (by decide) ?_ | refine go_ret ?_ | refine next_ret ?_ | refine inb_ret ?_))
    (apply ends_ok; (case h1 => simp; exact is_rfl); (case h2 => simp; exact is_rfl))
    simp

def readS (S : List (List UInt8)) (B : List Int) (k : Int) : List UInt8 × Int := if 0 ≤ k ∧ k < S.length then if k ∈ B then ([], 21) else (S.getD k.toNat [], 0) else ([], 2)

theorem Read_eq (S : List (List UInt8)) (B : List Int) (hB : B.length ≤ maxLen) (k : Int) : bodyW DC 68 [drv S B, .int .i64 k] [] = some (.tuple [.str (readS S B k).1, .int .i64 (readS S B k).2], []) := by
  have hH := has_eq S B k
  have hW := worn_eq S B hB
  have hf := findK_worn k (.bool true) B
  unfold readS
  (refine gives_iff ?_; refine go_func Try.f68 rfl rfl (by simp [Try.f68]) ?_; dsimp only [codeL, Try.f68, scL, sopsL, guardL, dstAt, loopKey])
  by_cases h : 0 ≤ k ∧ k < S.length
  · have hl : k.toNat < S.length := by omega
    by_cases hk : k ∈ B
    · rw [if_pos hk] at hf
      (repeat (first
    | (apply is_ok; (case hw => simp [hH, hW, hf, h]); (case he => simp [hH, hW, hf, h]; exact is_rfl))
    | (apply op_no; (case hw => simp [hH, hW, hf, h]))
    | refine op_nil ?_ | refine next_normal ?_ | refine go_seq ?_ | refine go_region ?_ | refine go_skip ?_ | refine go_block ?_ | refine inb_normal ?_
    | (apply go_yes; (case hc => simp [hH, hW, hf, h])) | (apply go_no; (case hc => simp [hH, hW, hf, h]))
    | refine go_exit ?_ | refine next_exit ?_ | refine inb_here ?_ | refine inb_past (by decide) ?_ | refine go_ret ?_ | refine next_ret ?_ | refine inb_ret ?_))
      (apply ends_ok; (case h1 => simp; exact is_rfl); (case h2 => simp; exact is_rfl))
      simp [h, hk]
    · rw [if_neg hk] at hf
      (repeat (first
    | (apply is_ok; (case hw => simp [hH, hW, hf, h, hl]); (case he => simp [hH, hW, hf, h, hl]; exact is_rfl))
    | (apply op_no; (case hw => simp [hH, hW, hf, h, hl]))
    | refine op_nil ?_ | refine next_normal ?_ | refine go_seq ?_ | refine go_region ?_ | refine go_skip ?_ | refine go_block ?_ | refine inb_normal ?_
    | (apply go_yes; (case hc => simp [hH, hW, hf, h, hl])) | (apply go_no; (case hc => simp [hH, hW, hf, h, hl]))
    | refine go_exit ?_ | refine next_exit ?_ | refine inb_here ?_ | refine inb_past (by decide) ?_ | refine go_ret ?_ | refine next_ret ?_ | refine inb_ret ?_))
      (apply ends_ok; (case h1 => simp; exact is_rfl); (case h2 => simp; exact is_rfl))
      simp [h, hk, hl]
  · (repeat (first
    | (apply is_ok; (case hw => simp [hH, h]); (case he => simp [hH, h]; exact is_rfl))
    | (apply op_no; (case hw => simp [hH, h]))
    | refine op_nil ?_ | refine next_normal ?_ | refine go_seq ?_ | refine go_region ?_ | refine go_skip ?_ | refine go_block ?_ | refine inb_normal ?_
    | (apply go_yes; (case hc => simp [hH, h])) | (apply go_no; (case hc => simp [hH, h]))
    | refine go_exit ?_ | refine next_exit ?_ | refine inb_here ?_ | refine inb_past (by decide) ?_ | refine go_ret ?_ | refine next_ret ?_ | refine inb_ret ?_))
    (apply ends_ok; (case h1 => simp; exact is_rfl); (case h2 => simp; exact is_rfl))
    simp [h]

theorem ReadR_eq (S : List (List UInt8)) (B : List Int) (hB : B.length ≤ maxLen) (k : Int) : bodyW DC 74 [drv S B, .int .i64 k] [] = some (.tuple [.str (readS S B k).1, .int .i64 (readS S B k).2], []) := by
  have hI := Isbad_eq S B hB k
  unfold readS
  (refine gives_iff ?_; refine go_func Try.f74 rfl rfl (by simp [Try.f74]) ?_; dsimp only [codeL, Try.f74, scL, sopsL, guardL, dstAt, loopKey])
  by_cases h : 0 ≤ k ∧ k < S.length
  · have hl : k.toNat < S.length := by omega
    have h1 : ¬ (k < 0) := by omega
    have h2 : ¬ ((S.length : Int) ≤ k) := by omega
    by_cases hk : k ∈ B
    · (repeat (first
    | (apply is_ok; (case hw => simp [hI, h, h1, h2, hk]); (case he => simp [hI, h, h1, h2, hk]; exact is_rfl))
    | (apply op_no; (case hw => simp [hI, h, h1, h2, hk]))
    | refine op_nil ?_ | refine next_normal ?_ | refine go_seq ?_ | refine go_region ?_ | refine go_skip ?_ | refine go_block ?_ | refine inb_normal ?_
    | (apply go_yes; (case hc => simp [hI, h, h1, h2, hk])) | (apply go_no; (case hc => simp [hI, h, h1, h2, hk]))
    | refine go_exit ?_ | refine next_exit ?_ | refine inb_here ?_ | refine inb_past (by decide) ?_ | refine go_ret ?_ | refine next_ret ?_ | refine inb_ret ?_))
      (apply ends_ok; (case h1 => simp; exact is_rfl); (case h2 => simp; exact is_rfl))
      simp [h, hk]
    · (repeat (first
    | (apply is_ok; (case hw => simp [hI, h, h1, h2, hk, hl]); (case he => simp [hI, h, h1, h2, hk, hl]; exact is_rfl))
    | (apply op_no; (case hw => simp [hI, h, h1, h2, hk, hl]))
    | refine op_nil ?_ | refine next_normal ?_ | refine go_seq ?_ | refine go_region ?_ | refine go_skip ?_ | refine go_block ?_ | refine inb_normal ?_
    | (apply go_yes; (case hc => simp [hI, h, h1, h2, hk, hl])) | (apply go_no; (case hc => simp [hI, h, h1, h2, hk, hl]))
    | refine go_exit ?_ | refine next_exit ?_ | refine inb_here ?_ | refine inb_past (by decide) ?_ | refine go_ret ?_ | refine next_ret ?_ | refine inb_ret ?_))
      (apply ends_ok; (case h1 => simp; exact is_rfl); (case h2 => simp; exact is_rfl))
      simp [h, hk, hl]
  · by_cases h1 : k < 0
    · (repeat (first
    | (apply is_ok; (case hw => simp [h1]); (case he => simp [h1]; exact is_rfl))
    | (apply op_no; (case hw => simp [h1]))
    | refine op_nil ?_ | refine next_normal ?_ | refine go_seq ?_ | refine go_region ?_ | refine go_skip ?_ | refine go_block ?_ | refine inb_normal ?_
    | (apply go_yes; (case hc => simp [h1])) | (apply go_no; (case hc => simp [h1]))
    | refine go_exit ?_ | refine next_exit ?_ | refine inb_here ?_ | refine inb_past (by decide) ?_ | refine go_ret ?_ | refine next_ret ?_ | refine inb_ret ?_))
      (apply ends_ok; (case h1 => simp; exact is_rfl); (case h2 => simp; exact is_rfl))
      simp [h]
    · have h2 : ((S.length : Int) ≤ k) := by omega
      (repeat (first
    | (apply is_ok; (case hw => simp [h1, h2]); (case he => simp [h1, h2]; exact is_rfl))
    | (apply op_no; (case hw => simp [h1, h2]))
    | refine op_nil ?_ | refine next_normal ?_ | refine go_seq ?_ | refine go_region ?_ | refine go_skip ?_ | refine go_block ?_ | refine inb_normal ?_
    | (apply go_yes; (case hc => simp [h1, h2])) | (apply go_no; (case hc => simp [h1, h2]))
    | refine go_exit ?_ | refine next_exit ?_ | refine inb_here ?_ | refine inb_past (by decide) ?_ | refine go_ret ?_ | refine next_ret ?_ | refine inb_ret ?_))
      (apply ends_ok; (case h1 => simp; exact is_rfl); (case h2 => simp; exact is_rfl))
      simp [h]

abbrev wrV (w : Int × List UInt8) : V := .agg [.int .i64 w.1, .str w.2]
def faultI (n : Nat) (B : List Int) (w : Int × List UInt8) : Int := if 0 ≤ w.1 ∧ w.1 < n then if 128 < w.2.length then 7 else if w.1 ∈ B then 21 else 0 else 2

theorem fault_eq (S : List (List UInt8)) (B : List Int) (w : Int × List UInt8) : bodyW DC 64 [drv S B, wornV B, wrV w] [] = some (.int .i64 (faultI S.length B w), []) := by
  have hH := has_eq S B w.1
  have hf := findK_worn w.1 (.bool true) B
  unfold faultI
  (refine gives_iff ?_; refine go_func Try.f64 rfl rfl (by simp [Try.f64]) ?_; dsimp only [codeL, Try.f64, scL, sopsL, guardL, dstAt, loopKey])
  by_cases h : 0 ≤ w.1 ∧ w.1 < S.length
  · by_cases h2 : 128 < w.2.length
    · have e2 : (128 : Int) < w.2.length := by omega
      (repeat (first
    | (apply is_ok; (case hw => simp [hH, h, h2, e2]); (case he => simp [hH, h, h2, e2]; exact is_rfl))
    | (apply op_no; (case hw => simp [hH, h, h2, e2]))
    | refine op_nil ?_ | refine next_normal ?_ | refine go_seq ?_ | refine go_region ?_ | refine go_skip ?_ | refine go_block ?_ | refine inb_normal ?_
    | (apply go_yes; (case hc => simp [hH, h, h2, e2])) | (apply go_no; (case hc => simp [hH, h, h2, e2]))
    | refine go_exit ?_ | refine next_exit ?_ | refine inb_here ?_ | refine inb_past (by decide) ?_ | refine go_ret ?_ | refine next_ret ?_ | refine inb_ret ?_))
      (apply ends_ok; (case h1 => simp; exact is_rfl); (case h2 => simp; exact is_rfl))
      simp [h, h2]
    · have e2 : ¬ ((128 : Int) < w.2.length) := by omega
      by_cases hk : w.1 ∈ B
      · rw [if_pos hk] at hf
        (repeat (first
    | (apply is_ok; (case hw => simp [hH, h, h2, e2, hf]); (case he => simp [hH, h, h2, e2, hf]; exact is_rfl))
    | (apply op_no; (case hw => simp [hH, h, h2, e2, hf]))
    | refine op_nil ?_ | refine next_normal ?_ | refine go_seq ?_ | refine go_region ?_ | refine go_skip ?_ | refine go_block ?_ | refine inb_normal ?_
    | (apply go_yes; (case hc => simp [hH, h, h2, e2, hf])) | (apply go_no; (case hc => simp [hH, h, h2, e2, hf]))
    | refine go_exit ?_ | refine next_exit ?_ | refine inb_here ?_ | refine inb_past (by decide) ?_ | refine go_ret ?_ | refine next_ret ?_ | refine inb_ret ?_))
        (apply ends_ok; (case h1 => simp; exact is_rfl); (case h2 => simp; exact is_rfl))
        simp [h, h2, hk]
      · rw [if_neg hk] at hf
        (repeat (first
    | (apply is_ok; (case hw => simp [hH, h, h2, e2, hf]); (case he => simp [hH, h, h2, e2, hf]; exact is_rfl))
    | (apply op_no; (case hw => simp [hH, h, h2, e2, hf]))
    | refine op_nil ?_ | refine next_normal ?_ | refine go_seq ?_ | refine go_region ?_ | refine go_skip ?_ | refine go_block ?_ | refine inb_normal ?_
    | (apply go_yes; (case hc => simp [hH, h, h2, e2, hf])) | (apply go_no; (case hc => simp [hH, h, h2, e2, hf]))
    | refine go_exit ?_ | refine next_exit ?_ | refine inb_here ?_ | refine inb_past (by decide) ?_ | refine go_ret ?_ | refine next_ret ?_ | refine inb_ret ?_))
        (apply ends_ok; (case h1 => simp; exact is_rfl); (case h2 => simp; exact is_rfl))
        simp [h, h2, hk]
  · (repeat (first
    | (apply is_ok; (case hw => simp [hH, h]); (case he => simp [hH, h]; exact is_rfl))
    | (apply op_no; (case hw => simp [hH, h]))
    | refine op_nil ?_ | refine next_normal ?_ | refine go_seq ?_ | refine go_region ?_ | refine go_skip ?_ | refine go_block ?_ | refine inb_normal ?_
    | (apply go_yes; (case hc => simp [hH, h])) | (apply go_no; (case hc => simp [hH, h]))
    | refine go_exit ?_ | refine next_exit ?_ | refine inb_here ?_ | refine inb_past (by decide) ?_ | refine go_ret ?_ | refine next_ret ?_ | refine inb_ret ?_))
    (apply ends_ok; (case h1 => simp; exact is_rfl); (case h2 => simp; exact is_rfl))
    simp [h]

end Go.Abs

namespace Go.Abs
open Go.Proofs
set_option maxRecDepth 100000
set_option linter.unusedSimpArgs false

theorem copied_eq (S : List (List UInt8)) (B : List Int) (hS : S.length ≤ 1000000) (hB : B.length ≤ 1000000) : bodyW DC 62 [drv S B] [] = some (.agg [.own 0 S.length 0 S.length, .own 1 B.length 0 B.length], [.dat true 1 (strs S), .dat true 1 (ints B)]) := by
  have r1 : S.length * 16 ≤ room := by unfold room; omega
  have r2 : S.length ≤ room := by unfold room; omega
  have r3 : B.length * 8 ≤ room := by unfold room; omega
  have r4 : B.length ≤ room := by unfold room; omega
  (refine gives_iff ?_; refine go_func Try.f62 rfl rfl (by simp [Try.f62]) ?_; dsimp only [codeL, Try.f62, scL, sopsL, guardL, dstAt, loopKey])
  (repeat (first
    | (apply is_ok; (case hw => simp [cloneX, r1, r2, r3, r4]); (case he => simp [cloneX, r1, r2, r3, r4]; exact is_rfl))
    | (apply op_no; (case hw => simp [cloneX, r1, r2, r3, r4]))
    | refine op_nil ?_ | refine next_normal ?_ | refine go_seq ?_ | refine go_region ?_ | refine go_skip ?_ | refine go_block ?_ | refine inb_normal ?_
    | (apply go_yes; (case hc => simp [cloneX, r1, r2, r3, r4])) | (apply go_no; (case hc => simp [cloneX, r1, r2, r3, r4]))
    | refine go_exit ?_ | refine next_exit ?_ | refine inb_here ?_ | refine inb_past (by decide) ?_ | refine go_ret ?_ | refine next_ret ?_ | refine inb_ret ?_))
  (apply ends_ok; (case h1 => simp; exact is_rfl); (case h2 => simp; exact is_rfl))
  simp
end Go.Abs

namespace Go.Abs
open Go.Proofs
set_option maxRecDepth 100000
set_option linter.unusedSimpArgs false

def putS (S : List (List UInt8)) (w : Int × List UInt8) : List (List UInt8) := S.set w.1.toNat (w.2 ++ List.replicate (128 - w.2.length) 0)

theorem faultI_zero {n : Nat} {B : List Int} {w : Int × List UInt8} : faultI n B w = 0 ↔ (0 ≤ w.1 ∧ w.1 < n) ∧ w.2.length ≤ 128 ∧ w.1 ∉ B := by
  unfold faultI
  by_cases h : 0 ≤ w.1 ∧ w.1 < n
  · by_cases h2 : 128 < w.2.length
    · simp [h, h2]; omega
    · by_cases h3 : w.1 ∈ B
      · simp [h, h2, h3]
      · simp [h, h2, h3]; omega
  · simp [h]

def applyS (B : List Int) (fuse : Int) : List (List UInt8) → Nat → List (Int × List UInt8) → List (List UInt8) × Nat × Int
  | S, i, [] => (S, i, 0)
  | S, i, w :: r => if (i : Int) = fuse then (S, i, 0) else if faultI S.length B w = 0 then applyS B fuse (putS S w) (i + 1) r else (S, i, faultI S.length B w)

theorem repeatL_zero (n : Nat) : Lib.repeatL [0] n = List.replicate n (0 : UInt8) := by
  induction n with
  | zero => rfl
  | succ n ih => show [0] ++ Lib.repeatL [0] n = _; rw [ih]; rfl

theorem Apply_eq (S : List (List UInt8)) (B : List Int) (hS : S.length ≤ 1000000) (hB : B.length ≤ 1000000) (l : List (Int × List UInt8)) (hl : l.length ≤ 1000000) (fuse : Int) :
    bodyW DC 36 [drv S B, .sl (l.map wrV), .int .i64 fuse] [] =
      some (.tuple [.agg [.own 0 S.length 0 S.length, .own 1 B.length 0 B.length], .int .i64 (applyS B fuse S 0 l).2.1, .int .i64 (applyS B fuse S 0 l).2.2], [.dat true 1 (strs (applyS B fuse S 0 l).1), .dat true 1 (ints B)]) := by
  have hC := copied_eq S B hS hB
  have hW := worn_eq S B (by unfold maxLen; omega)
  generalize hR : applyS B fuse S 0 l = R
  (refine gives_iff ?_; refine go_func Try.f36 rfl rfl (by simp [Try.f36]) ?_; dsimp only [codeL, Try.f36, scL, sopsL, guardL, dstAt, loopKey])
  (repeat (first
    | (apply is_ok; (case hw => simp [hC, hW]); (case he => simp [hC, hW]; exact is_rfl))
    | (apply op_no; (case hw => simp [hC, hW]))
    | refine op_nil ?_ | refine next_normal ?_ | refine go_seq ?_ | refine go_region ?_ | refine go_skip ?_ | refine go_block ?_ | refine inb_normal ?_
    | (apply go_yes; (case hc => simp [hC, hW])) | (apply go_no; (case hc => simp [hC, hW]))
    | refine go_exit ?_ | refine next_exit ?_ | refine inb_here ?_ | refine inb_past (by decide) ?_ | refine go_ret ?_ | refine next_ret ?_ | refine inb_ret ?_))
  refine go_while (σ := Nat × List (List UInt8)) (fun s => [(1, .sl (l.map wrV)), (2, .int .i64 fuse), (3, .ptr 0 1 0 0), (6, .ptr 3 1 0 0), (9, .map 6), (17, .sl (l.map wrV)), (18, .int .i64 l.length), (19, .int .i64 s.1)])
    (fun s => [.box (.agg [.own 1 S.length 0 S.length, .own 2 B.length 0 B.length]), .dat true 1 (strs s.2), .dat true 1 (ints B), .box (.agg [.own 4 0 0 0, .own 5 0 0 0]), .dat true 1 [], .dat true 1 [], .map true (ints (wornK B)) (List.replicate (wornK B).length (.bool true))])
    (fun s => s.1 ≤ l.length ∧ s.2.length = S.length ∧ applyS B fuse s.2 s.1 (l.drop s.1) = R) (fun s => l.length - s.1) (0, S) (by simp) (by simpa using hR) fun ⟨i, T⟩ ⟨hi, hT, hA⟩ => ?_
  simp only at hi hT hA ⊢
  by_cases hlt : i < l.length
  · have hw : IntKind.i64.wrap ((i : Int) + 1) = (i : Int) + 1 := wrap_id (by omega) (by omega)
    have hF := fault_eq T B l[i]
    rw [List.drop_eq_getElem_cons hlt, applyS] at hA
    by_cases hf : (i : Int) = fuse
    · subst hf
      rw [if_pos rfl] at hA
      (repeat (first
    | (apply is_ok; (case hw => simp [hlt]); (case he => simp [hlt]; exact is_rfl))
    | (apply op_no; (case hw => simp [hlt]))
    | refine op_nil ?_ | refine next_normal ?_ | refine go_seq ?_ | refine go_region ?_ | refine go_skip ?_ | refine go_block ?_ | refine inb_normal ?_
    | (apply go_yes; (case hc => simp [hlt])) | (apply go_no; (case hc => simp [hlt]))
    | refine go_exit ?_ | refine next_exit ?_ | refine inb_here ?_ | refine inb_past (by decide) ?_ | refine go_ret ?_ | refine next_ret ?_ | refine inb_ret ?_))
      (apply ends_ok; (case h1 => simp; exact is_rfl); (case h2 => simp; exact is_rfl))
      simp [← hA, hT]
    · rw [if_neg hf] at hA
      by_cases hz : faultI T.length B l[i] = 0
      · rw [if_pos hz] at hA
        obtain ⟨⟨h1, h2⟩, h3, h4⟩ := faultI_zero.1 hz
        have e4 : IntKind.i64.wrap (128 - (l[i].2.length : Int)) = ((128 - l[i].2.length : Nat) : Int) := by rw [wrap_id (by omega) (by omega)]; omega
        have e5 : 128 - l[i].2.length ≤ 140737488355328 := by omega
        have e6 : ((128 - l[i].2.length : Nat) : Int) ≤ 9223372036854775807 := by omega
        have r3 : l[i].2.length + (128 - l[i].2.length) ≤ room := by unfold room; omega
        have hl' : l[i].1.toNat < T.length := by omega
        have hl'' : l[i].1.toNat < S.length := by omega
        have hl3 : l[i].1 < S.length := by omega
        rw [hT] at hz
        rw [hT] at hF
        (repeat (first
    | (apply is_ok; (case hw => simp [hlt, hf, hF, hz, e4, e5, e6, r3, hl', hl'', hl3, hT, h1, repeatX, repeatL_zero]); (case he => simp [hlt, hf, hF, hz, e4, e5, e6, r3, hl', hl'', hl3, hT, h1, repeatX, repeatL_zero]; exact is_rfl))
    | (apply op_no; (case hw => simp [hlt, hf, hF, hz, e4, e5, e6, r3, hl', hl'', hl3, hT, h1, repeatX, repeatL_zero]))
    | refine op_nil ?_ | refine next_normal ?_ | refine go_seq ?_ | refine go_region ?_ | refine go_skip ?_ | refine go_block ?_ | refine inb_normal ?_
    | (apply go_yes; (case hc => simp [hlt, hf, hF, hz, e4, e5, e6, r3, hl', hl'', hl3, hT, h1, repeatX, repeatL_zero])) | (apply go_no; (case hc => simp [hlt, hf, hF, hz, e4, e5, e6, r3, hl', hl'', hl3, hT, h1, repeatX, repeatL_zero]))
    | refine go_exit ?_ | refine next_exit ?_ | refine inb_here ?_ | refine inb_past (by decide) ?_ | refine go_ret ?_ | refine next_ret ?_ | refine inb_ret ?_))
        refine ⟨(i + 1, putS T l[i]), by simp [hw, putS, List.map_set], by show l.length - (i + 1) < l.length - i; omega, by show i + 1 ≤ l.length; omega, by simpa [putS] using hT, hA⟩
      · rw [if_neg hz] at hA
        rw [hT] at hz hF hA
        (repeat (first
    | (apply is_ok; (case hw => simp [hlt, hf, hF, hz, hT]); (case he => simp [hlt, hf, hF, hz, hT]; exact is_rfl))
    | (apply op_no; (case hw => simp [hlt, hf, hF, hz, hT]))
    | refine op_nil ?_ | refine next_normal ?_ | refine go_seq ?_ | refine go_region ?_ | refine go_skip ?_ | refine go_block ?_ | refine inb_normal ?_
    | (apply go_yes; (case hc => simp [hlt, hf, hF, hz, hT])) | (apply go_no; (case hc => simp [hlt, hf, hF, hz, hT]))
    | refine go_exit ?_ | refine next_exit ?_ | refine inb_here ?_ | refine inb_past (by decide) ?_ | refine go_ret ?_ | refine next_ret ?_ | refine inb_ret ?_))
        (apply ends_ok; (case h1 => simp; exact is_rfl); (case h2 => simp; exact is_rfl))
        simp [← hA, hT]
  · (repeat (first
    | (apply is_ok; (case hw => simp [hlt]); (case he => simp [hlt]; exact is_rfl))
    | (apply op_no; (case hw => simp [hlt]))
    | refine op_nil ?_ | refine next_normal ?_ | refine go_seq ?_ | refine go_region ?_ | refine go_skip ?_ | refine go_block ?_ | refine inb_normal ?_
    | (apply go_yes; (case hc => simp [hlt])) | (apply go_no; (case hc => simp [hlt]))
    | refine go_exit ?_ | refine next_exit ?_ | refine inb_here ?_ | refine inb_past (by decide) ?_ | refine go_ret ?_ | refine next_ret ?_ | refine inb_ret ?_))
    (apply ends_ok; (case h1 => simp; exact is_rfl); (case h2 => simp; exact is_rfl))
    have : i = l.length := by omega
    rw [this, List.drop_length, applyS] at hA
    simp [← hA, hT, this]

end Go.Abs

namespace Go.Abs
open Go.Proofs
set_option maxRecDepth 100000
set_option linter.unusedSimpArgs false
set_option linter.unusedVariables false

theorem u8s_append (a b : List UInt8) : u8s (a ++ b) = u8s a ++ u8s b := by simp [u8s]
@[simp] theorem u8s_length (a : List UInt8) : (u8s a).length = a.length := by simp [u8s]
/-- A text filled with zeros. -/
def padS (s : List UInt8) : List UInt8 := s ++ List.replicate (128 - s.length) 0
theorem padS_length {s : List UInt8} (h : s.length ≤ 128) : (padS s).length = 128 := by simp [padS]; omega

theorem padded_eq (s : List UInt8) (h : s.length ≤ 128) : bodyW DC 60 [.str s] [] = some (.str (padS s), []) := by
  have e4 : IntKind.i64.wrap (128 - (s.length : Int)) = ((128 - s.length : Nat) : Int) := by rw [wrap_id (by omega) (by omega)]; omega
  have e5 : 128 - s.length ≤ 140737488355328 := by omega
  have e6 : ((128 - s.length : Nat) : Int) ≤ 9223372036854775807 := by omega
  have r3 : s.length + (128 - s.length) ≤ room := by unfold room; omega
  (refine gives_iff ?_; refine go_func Try.f60 rfl rfl (by simp [Try.f60]) ?_; dsimp only [codeL, Try.f60, scL, sopsL, guardL, dstAt, loopKey])
  (repeat (first
    | (apply is_ok; (case hw => simp [e4, e5, e6, r3, repeatX, repeatL_zero]); (case he => simp [e4, e5, e6, r3, repeatX, repeatL_zero]; exact is_rfl))
    | (apply op_no; (case hw => simp [e4, e5, e6, r3, repeatX, repeatL_zero]))
    | refine op_nil ?_ | refine next_normal ?_ | refine go_seq ?_ | refine go_region ?_ | refine go_skip ?_ | refine go_block ?_ | refine inb_normal ?_
    | (apply go_yes; (case hc => simp [e4, e5, e6, r3, repeatX, repeatL_zero])) | (apply go_no; (case hc => simp [e4, e5, e6, r3, repeatX, repeatL_zero]))
    | refine go_exit ?_ | refine next_exit ?_ | refine inb_here ?_ | refine inb_past (by decide) ?_ | refine go_ret ?_ | refine next_ret ?_ | refine inb_ret ?_))
  (apply ends_ok; (case h1 => simp; exact is_rfl); (case h2 => simp; exact is_rfl))
  simp [padS]

theorem zeros37_eq (s : List UInt8) (h : s.length ≤ 128) : bodyW DC 75 [.str s] [] = some (.str (padS s), []) := by
  have r0 : s.length ≤ room := by unfold room; omega
  (refine gives_iff ?_; refine go_func Try.f75 rfl rfl (by simp [Try.f75]) ?_; dsimp only [codeL, Try.f75, scL, sopsL, guardL, dstAt, loopKey])
  (repeat (first
    | (apply is_ok; (case hw => simp [r0]); (case he => simp [r0]; exact is_rfl))
    | (apply op_no; (case hw => simp [r0]))
    | refine op_nil ?_ | refine next_normal ?_ | refine go_seq ?_ | refine go_region ?_ | refine go_skip ?_ | refine go_block ?_ | refine inb_normal ?_
    | (apply go_yes; (case hc => simp [r0])) | (apply go_no; (case hc => simp [r0]))
    | refine go_exit ?_ | refine next_exit ?_ | refine inb_here ?_ | refine inb_past (by decide) ?_ | refine go_ret ?_ | refine next_ret ?_ | refine inb_ret ?_))
  refine go_count (128 - s.length) (fun i => [(3, .own 0 (s.length + i) 0 (s.length + i))]) (fun i => [.dat true 1 (u8s (s ++ List.replicate i 0))]) (fun _ => True) (by simp) trivial fun i hi _ => ?_
  have hl : (s ++ List.replicate i (0 : UInt8)).length = s.length + i := by simp
  have ha : u8s (s ++ List.replicate (i + 1) 0) = u8s (s ++ List.replicate i 0) ++ [.int .u8 0] := by
    rw [List.replicate_succ', ← List.append_assoc, u8s_append _ [0]]; rfl
  have hq : i = 128 - s.length → s ++ List.replicate i (0 : UInt8) = padS s := fun h => by rw [h]; rfl
  generalize s ++ List.replicate i (0 : UInt8) = t at hl ha hq
  generalize hn : s.length + i = n at hl
  have r1 : n + 1 ≤ room := by unfold room; omega
  by_cases hlt : n < 128
  · have hlt' : (n : Int) < 128 := by omega
    (repeat (first
    | (apply is_ok; (case hw => simp [hl, hlt, hlt', r1]); (case he => simp [hl, hlt, hlt', r1]; exact is_rfl))
    | (apply op_no; (case hw => simp [hl, hlt, hlt', r1]))
    | refine op_nil ?_ | refine next_normal ?_ | refine go_seq ?_ | refine go_region ?_ | refine go_skip ?_ | refine go_block ?_ | refine inb_normal ?_
    | (apply go_yes; (case hc => simp [hl, hlt, hlt', r1])) | (apply go_no; (case hc => simp [hl, hlt, hlt', r1]))
    | refine go_exit ?_ | refine next_exit ?_ | refine inb_here ?_ | refine inb_past (by decide) ?_ | refine go_ret ?_ | refine next_ret ?_ | refine inb_ret ?_))
    exact ⟨by omega, by simp [ha, ← hn, Nat.add_assoc], trivial⟩
  · have hlt' : ¬ ((n : Int) < 128) := by omega
    (repeat (first
    | (apply is_ok; (case hw => simp [hl, hlt, hlt']); (case he => simp [hl, hlt, hlt']; exact is_rfl))
    | (apply op_no; (case hw => simp [hl, hlt, hlt']))
    | refine op_nil ?_ | refine next_normal ?_ | refine go_seq ?_ | refine go_region ?_ | refine go_skip ?_ | refine go_block ?_ | refine inb_normal ?_
    | (apply go_yes; (case hc => simp [hl, hlt, hlt'])) | (apply go_no; (case hc => simp [hl, hlt, hlt']))
    | refine go_exit ?_ | refine next_exit ?_ | refine inb_here ?_ | refine inb_past (by decide) ?_ | refine go_ret ?_ | refine next_ret ?_ | refine inb_ret ?_))
    (apply ends_ok; (case h1 => simp; exact is_rfl); (case h2 => simp; exact is_rfl))
    simp [hq (by omega)]

theorem Get_eq (s : List UInt8) (i : Nat) (h : i + 2 ≤ s.length) (hs : s.length ≤ 1000000) :
    bodyW DC 77 [.str s, .int .i64 i, .int .i64 2] [] = some (.tuple [.int .i64 (word (s[i]'(by omega)) (s[i + 1]'(by omega))), .int .i64 ((i : Int) + 2), .int .i64 0], []) := by
  have h0 : i < s.length := by omega
  have h1 : i + 1 < s.length := by omega
  generalize hx : s[i]'h0 = x
  generalize hy : s[i + 1]'h1 = y
  have g0 : s[i]? = some x := by rw [List.getElem?_eq_getElem h0, hx]
  have g1 : s[i + 1]? = some y := by rw [List.getElem?_eq_getElem h1, hy]
  have bx := x.toNat_lt
  have by_ := y.toNat_lt
  have a1 : IntKind.i64.wrap ((i : Int) + 2) = i + 2 := wrap_id (by omega) (by omega)
  have a3 : IntKind.i64.wrap ((i : Int) + 1) = i + 1 := wrap_id (by omega) (by omega)
  have a4 : IntKind.i64.wrap (i : Int) = i := wrap_id (by omega) (by omega)
  have a6 : IntKind.i64.wrap ((s.length : Int) - i) = s.length - i := wrap_id (by omega) (by omega)
  have a7 : ¬ ((s.length : Int) - i < 2) := by omega
  have a8 : ¬ ((s.length : Int) < i) := by omega
  have a8' : ¬ (s.length < i) := by omega
  have a9 : ((i : Int) + 1).toNat = i + 1 := by omega
  have c1 : (0 : Int) ≤ (i : Int) + 1 := by omega
  have d1 : IntKind.i64.wrap ((y.toNat : Int) * 256) = y.toNat * 256 := wrap_byte256 y
  have d2 : intOp .or .i64 0 (y.toNat : Int) = some (.int .i64 y.toNat) := by
    show some (V.int .i64 (IntKind.i64.wrap ((BitVec.ofInt 64 0 ||| BitVec.ofInt 64 (y.toNat : Int)).toNat : Int))) = _
    rw [show BitVec.ofInt 64 0 = 0#64 from rfl, BitVec.zero_or, BitVec.toNat_ofInt]
    have e1 : ((y.toNat : Int) % (2 ^ 64 : Nat)).toNat = y.toNat := by omega
    rw [e1, wrap_byte]
  have d4 : intOp .or .i64 ((y.toNat : Int) * 256) (x.toNat : Int) = some (.int .i64 (word x y)) := by
    rw [← or_bytes x y]
    show some (V.int .i64 (IntKind.i64.wrap ((BitVec.ofInt 64 ((y.toNat : Int) * 256) ||| BitVec.ofInt 64 (x.toNat : Int)).toNat : Int))) = some (V.int .i64 (IntKind.i64.wrap ((BitVec.ofInt 64 (x.toNat : Int) ||| BitVec.ofInt 64 ((y.toNat : Int) * 256)).toNat : Int)))
    rw [BitVec.or_comm]
  have d3 : ¬ ((i : Int) < 0) := by omega
  (refine gives_iff ?_; refine go_func Try.f77 rfl rfl (by simp [Try.f77]) ?_; dsimp only [codeL, Try.f77, scL, sopsL, guardL, dstAt, loopKey])
  (repeat (first
    | (apply is_ok; (case hw => simp [-intOp, a1, a3, a4, a6, a7, a8, a8', a9, c1, d1, d2, d3, d4, g0, g1, h0, h1, hx, hy]); (case he => simp [-intOp, a1, a3, a4, a6, a7, a8, a8', a9, c1, d1, d2, d3, d4, g0, g1, h0, h1, hx, hy]; exact is_rfl))
    | (apply op_no; (case hw => simp [-intOp, a1, a3, a4, a6, a7, a8, a8', a9, c1, d1, d2, d3, d4, g0, g1, h0, h1, hx, hy]))
    | refine op_nil ?_ | refine next_normal ?_ | refine go_seq ?_ | refine go_region ?_ | refine go_skip ?_ | refine go_block ?_ | refine inb_normal ?_
    | (apply go_yes; (case hc => simp [-intOp, a1, a3, a4, a6, a7, a8, a8', a9, c1, d1, d2, d3, d4, g0, g1, h0, h1, hx, hy])) | (apply go_no; (case hc => simp [-intOp, a1, a3, a4, a6, a7, a8, a8', a9, c1, d1, d2, d3, d4, g0, g1, h0, h1, hx, hy]))
    | refine go_exit ?_ | refine next_exit ?_ | refine inb_here ?_ | refine inb_past (by decide) ?_ | refine go_ret ?_ | refine next_ret ?_ | refine inb_ret ?_
    | (apply go_unroll; (case hh => simp [-intOp, a1, a3, a4, a6, a7, a8, a8', a9, c1, d1, d2, d3, d4, g0, g1, h0, h1, hx, hy]; exact is_rfl))))
  (apply ends_ok; (case h1 => simp; exact is_rfl); (case h2 => simp; exact is_rfl))
  simp

theorem fits_eq (n w : Int) (h : 0 ≤ n ∧ n ≤ 1000000) : bodyW DC 69 [.int .i64 n, .int .i64 w] [] = some (.bool (decide (32 ≤ n ∧ n ≤ 256 ∧ 0 ≤ w ∧ w ≤ n - 32)), []) := by
  have e : IntKind.i64.wrap (n - 32) = n - 32 := wrap_id (by omega) (by omega)
  by_cases h1 : 32 ≤ n
  · by_cases h2 : n ≤ 256
    · by_cases h3 : 0 ≤ w
      · (refine gives_iff ?_; refine go_func Try.f69 rfl rfl (by simp [Try.f69]) ?_; dsimp only [codeL, Try.f69, scL, sopsL, guardL, dstAt, loopKey])
        (repeat (first
    | (apply is_ok; (case hw => simp [e, h1, h2, h3]); (case he => simp [e, h1, h2, h3]; exact is_rfl))
    | (apply op_no; (case hw => simp [e, h1, h2, h3]))
    | refine op_nil ?_ | refine next_normal ?_ | refine go_seq ?_ | refine go_region ?_ | refine go_skip ?_ | refine go_block ?_ | refine inb_normal ?_
    | (apply go_yes; (case hc => simp [e, h1, h2, h3])) | (apply go_no; (case hc => simp [e, h1, h2, h3]))
    | refine go_exit ?_ | refine next_exit ?_ | refine inb_here ?_ | refine inb_past (by decide) ?_ | refine go_ret ?_ | refine next_ret ?_ | refine inb_ret ?_))
        (apply ends_ok; (case h1 => simp; exact is_rfl); (case h2 => simp; exact is_rfl))
        simp [h1, h2, h3]
      · (refine gives_iff ?_; refine go_func Try.f69 rfl rfl (by simp [Try.f69]) ?_; dsimp only [codeL, Try.f69, scL, sopsL, guardL, dstAt, loopKey])
        (repeat (first
    | (apply is_ok; (case hw => simp [e, h1, h2, h3]); (case he => simp [e, h1, h2, h3]; exact is_rfl))
    | (apply op_no; (case hw => simp [e, h1, h2, h3]))
    | refine op_nil ?_ | refine next_normal ?_ | refine go_seq ?_ | refine go_region ?_ | refine go_skip ?_ | refine go_block ?_ | refine inb_normal ?_
    | (apply go_yes; (case hc => simp [e, h1, h2, h3])) | (apply go_no; (case hc => simp [e, h1, h2, h3]))
    | refine go_exit ?_ | refine next_exit ?_ | refine inb_here ?_ | refine inb_past (by decide) ?_ | refine go_ret ?_ | refine next_ret ?_ | refine inb_ret ?_))
        (apply ends_ok; (case h1 => simp; exact is_rfl); (case h2 => simp; exact is_rfl))
        simp [h1, h2, h3]
    · (refine gives_iff ?_; refine go_func Try.f69 rfl rfl (by simp [Try.f69]) ?_; dsimp only [codeL, Try.f69, scL, sopsL, guardL, dstAt, loopKey])
      (repeat (first
    | (apply is_ok; (case hw => simp [e, h1, h2]); (case he => simp [e, h1, h2]; exact is_rfl))
    | (apply op_no; (case hw => simp [e, h1, h2]))
    | refine op_nil ?_ | refine next_normal ?_ | refine go_seq ?_ | refine go_region ?_ | refine go_skip ?_ | refine go_block ?_ | refine inb_normal ?_
    | (apply go_yes; (case hc => simp [e, h1, h2])) | (apply go_no; (case hc => simp [e, h1, h2]))
    | refine go_exit ?_ | refine next_exit ?_ | refine inb_here ?_ | refine inb_past (by decide) ?_ | refine go_ret ?_ | refine next_ret ?_ | refine inb_ret ?_))
      (apply ends_ok; (case h1 => simp; exact is_rfl); (case h2 => simp; exact is_rfl))
      simp [h1, h2]
  · (refine gives_iff ?_; refine go_func Try.f69 rfl rfl (by simp [Try.f69]) ?_; dsimp only [codeL, Try.f69, scL, sopsL, guardL, dstAt, loopKey])
    (repeat (first
    | (apply is_ok; (case hw => simp [e, h1]); (case he => simp [e, h1]; exact is_rfl))
    | (apply op_no; (case hw => simp [e, h1]))
    | refine op_nil ?_ | refine next_normal ?_ | refine go_seq ?_ | refine go_region ?_ | refine go_skip ?_ | refine go_block ?_ | refine inb_normal ?_
    | (apply go_yes; (case hc => simp [e, h1])) | (apply go_no; (case hc => simp [e, h1]))
    | refine go_exit ?_ | refine next_exit ?_ | refine inb_here ?_ | refine inb_past (by decide) ?_ | refine go_ret ?_ | refine next_ret ?_ | refine inb_ret ?_))
    (apply ends_ok; (case h1 => simp; exact is_rfl); (case h2 => simp; exact is_rfl))
    simp [h1]

def superS (n w : Int) : List UInt8 := padS ([69, 77, 86, 49] ++ (put2 n ++ put2 w))
theorem super_eq (n w : Int) (hn : n ≤ 9223372036854775807) (hw : w ≤ 9223372036854775807) : bodyW DC 71 [.int .i64 n, .int .i64 w] [] = some (.str (superS n w), []) := by
  have hp := padded_eq ([69, 77, 86, 49] ++ (put2 n ++ put2 w)) (by simp)
  have p1 := Put_eq n hn
  have p2 := Put_eq w hw
  unfold superS
  simp only [List.cons_append, List.nil_append] at hp ⊢
  (refine gives_iff ?_; refine go_func Try.f71 rfl rfl (by simp [Try.f71]) ?_; dsimp only [codeL, Try.f71, scL, sopsL, guardL, dstAt, loopKey])
  (repeat (first
    | (apply is_ok; (case hw => simp [p1, p2, hp, room]); (case he => simp [p1, p2, hp, room]; exact is_rfl))
    | (apply op_no; (case hw => simp [p1, p2, hp, room]))
    | refine op_nil ?_ | refine next_normal ?_ | refine go_seq ?_ | refine go_region ?_ | refine go_skip ?_ | refine go_block ?_ | refine inb_normal ?_
    | (apply go_yes; (case hc => simp [p1, p2, hp, room])) | (apply go_no; (case hc => simp [p1, p2, hp, room]))
    | refine go_exit ?_ | refine next_exit ?_ | refine inb_here ?_ | refine inb_past (by decide) ?_ | refine go_ret ?_ | refine next_ret ?_ | refine inb_ret ?_))
  (apply ends_ok; (case h1 => simp; exact is_rfl); (case h2 => simp; exact is_rfl))
  simp
theorem head_eq (n w : Int) (hn : n ≤ 9223372036854775807) (hw : w ≤ 9223372036854775807) : bodyW DC 57 [.int .i64 n, .int .i64 w] [] = some (.str (superS n w), []) := by
  have hp := zeros37_eq ([69, 77, 86, 49] ++ (put2 n ++ put2 w)) (by simp)
  have p1 := PutR_eq n hn
  have p2 := PutR_eq w hw
  unfold superS
  simp only [List.cons_append, List.nil_append] at hp ⊢
  (refine gives_iff ?_; refine go_func Try.f57 rfl rfl (by simp [Try.f57]) ?_; dsimp only [codeL, Try.f57, scL, sopsL, guardL, dstAt, loopKey])
  (repeat (first
    | (apply is_ok; (case hw => simp [p1, p2, hp, room]); (case he => simp [p1, p2, hp, room]; exact is_rfl))
    | (apply op_no; (case hw => simp [p1, p2, hp, room]))
    | refine op_nil ?_ | refine next_normal ?_ | refine go_seq ?_ | refine go_region ?_ | refine go_skip ?_ | refine go_block ?_ | refine inb_normal ?_
    | (apply go_yes; (case hc => simp [p1, p2, hp, room])) | (apply go_no; (case hc => simp [p1, p2, hp, room]))
    | refine go_exit ?_ | refine next_exit ?_ | refine inb_here ?_ | refine inb_past (by decide) ?_ | refine go_ret ?_ | refine next_ret ?_ | refine inb_ret ?_))
  (apply ends_ok; (case h1 => simp; exact is_rfl); (case h2 => simp; exact is_rfl))
  simp

theorem bad_eq (S : List (List UInt8)) (B : List Int) (hB : B.length ≤ maxLen) (k : Int) : bodyW DC 55 [drv S B, .int .i64 k] [] = some (.bool (decide (k ∈ B)), []) := by
  unfold maxLen at hB
  (refine gives_iff ?_; refine go_func Try.f55 rfl rfl (by simp [Try.f55]) ?_; dsimp only [codeL, Try.f55, scL, sopsL, guardL, dstAt, loopKey])
  (repeat (first
    | (apply is_ok; (case hw => simp); (case he => simp; exact is_rfl))
    | (apply op_no; (case hw => simp))
    | refine op_nil ?_ | refine next_normal ?_ | refine go_seq ?_ | refine go_region ?_ | refine go_skip ?_ | refine go_block ?_ | refine inb_normal ?_
    | (apply go_yes; (case hc => simp)) | (apply go_no; (case hc => simp))
    | refine go_exit ?_ | refine next_exit ?_ | refine inb_here ?_ | refine inb_past (by decide) ?_ | refine go_ret ?_ | refine next_ret ?_ | refine inb_ret ?_))
  refine go_count B.length (fun i => [(1, .int .i64 k), (2, .ptr 0 1 0 0), (5, .int .i64 i)]) (fun _ => [.box (drv S B)]) (fun i => ∀ j (hj : j < B.length), j < i → B[j] ≠ k) (by simp) (by simp) fun i hi hI => ?_
  by_cases hlt : i < B.length
  · have hw : IntKind.i64.wrap ((i : Int) + 1) = (i : Int) + 1 := wrap_id (by omega) (by omega)
    by_cases h3 : B[i] = k
    · (repeat (first
    | (apply is_ok; (case hw => simp [hlt, h3]); (case he => simp [hlt, h3]; exact is_rfl))
    | (apply op_no; (case hw => simp [hlt, h3]))
    | refine op_nil ?_ | refine next_normal ?_ | refine go_seq ?_ | refine go_region ?_ | refine go_skip ?_ | refine go_block ?_ | refine inb_normal ?_
    | (apply go_yes; (case hc => simp [hlt, h3])) | (apply go_no; (case hc => simp [hlt, h3]))
    | refine go_exit ?_ | refine next_exit ?_ | refine inb_here ?_ | refine inb_past (by decide) ?_ | refine go_ret ?_ | refine next_ret ?_ | refine inb_ret ?_))
      (apply ends_ok; (case h1 => simp; exact is_rfl); (case h2 => simp; exact is_rfl))
      have : k ∈ B := h3 ▸ List.getElem_mem hlt
      simp [this]
    · (repeat (first
    | (apply is_ok; (case hw => simp [hlt, h3]); (case he => simp [hlt, h3]; exact is_rfl))
    | (apply op_no; (case hw => simp [hlt, h3]))
    | refine op_nil ?_ | refine next_normal ?_ | refine go_seq ?_ | refine go_region ?_ | refine go_skip ?_ | refine go_block ?_ | refine inb_normal ?_
    | (apply go_yes; (case hc => simp [hlt, h3])) | (apply go_no; (case hc => simp [hlt, h3]))
    | refine go_exit ?_ | refine next_exit ?_ | refine inb_here ?_ | refine inb_past (by decide) ?_ | refine go_ret ?_ | refine next_ret ?_ | refine inb_ret ?_))
      exact ⟨hlt, by simp [hw], fun j hj hji => by
        by_cases hje : j = i
        · subst hje; exact h3
        · exact hI j hj (by omega)⟩
  · (repeat (first
    | (apply is_ok; (case hw => simp [hlt]); (case he => simp [hlt]; exact is_rfl))
    | (apply op_no; (case hw => simp [hlt]))
    | refine op_nil ?_ | refine next_normal ?_ | refine go_seq ?_ | refine go_region ?_ | refine go_skip ?_ | refine go_block ?_ | refine inb_normal ?_
    | (apply go_yes; (case hc => simp [hlt])) | (apply go_no; (case hc => simp [hlt]))
    | refine go_exit ?_ | refine next_exit ?_ | refine inb_here ?_ | refine inb_past (by decide) ?_ | refine go_ret ?_ | refine next_ret ?_ | refine inb_ret ?_))
    (apply ends_ok; (case h1 => simp; exact is_rfl); (case h2 => simp; exact is_rfl))
    have : k ∉ B := fun h => by
      obtain ⟨j, hj, h⟩ := List.getElem_of_mem h
      exact hI j hj (by omega) h
    simp [this]
end Go.Abs

namespace Go.Abs
open Go.Proofs
set_option maxRecDepth 100000
set_option linter.unusedSimpArgs false
set_option linter.unusedVariables false

def swapW (S : List (List UInt8)) : Int := word ((S.getD 0 []).getD 6 0) ((S.getD 0 []).getD 7 0)
/-- Is a drive a volume? -/
def VolP (S : List (List UInt8)) (B : List Int) : Prop := RightP S B ∧ 32 ≤ S.length ∧ (0 : Int) ∉ B ∧ swapW S ≤ S.length - 32 ∧ S.getD 0 [] = superS S.length (swapW S)
instance (S : List (List UInt8)) (B : List Int) : Decidable (VolP S B) := by unfold VolP; infer_instance

theorem getD_at {α : Type} {l : List α} {i : Nat} {d : α} (h : i < l.length) : l.getD i d = l[i]'h := by simp [h]

theorem s0_length {S : List (List UInt8)} {B : List Int} (h : RightP S B) : (S.getD 0 []).length = 128 := by
  have h1 : 0 < S.length := h.1
  have := h.2.2.1 S[0] (List.getElem_mem h1)
  simpa [h1] using this

theorem swapping_eq (S : List (List UInt8)) (B : List Int) (hB : B.length ≤ maxLen) : ∃ w, bodyW DC 58 [drv S B] [] = some (.tuple [.int .i64 w, .bool (decide (VolP S B))], []) ∧ (VolP S B → w = swapW S) := by
  have hV := Right_eq S B hB
  by_cases hr : RightP S B
  case neg =>
    have hk : ¬ VolP S B := fun h => hr h.1
    refine ⟨0, ?_, fun h => absurd h hk⟩
    (refine gives_iff ?_; refine go_func Try.f58 rfl rfl (by simp [Try.f58]) ?_; dsimp only [codeL, Try.f58, scL, sopsL, guardL, dstAt, loopKey])
    (repeat (first
    | (apply is_ok; (case hw => simp [hV, hr]); (case he => simp [hV, hr]; exact is_rfl))
    | (apply op_no; (case hw => simp [hV, hr]))
    | refine op_nil ?_ | refine next_normal ?_ | refine go_seq ?_ | refine go_region ?_ | refine go_skip ?_ | refine go_block ?_ | refine inb_normal ?_
    | (apply go_yes; (case hc => simp [hV, hr])) | (apply go_no; (case hc => simp [hV, hr]))
    | refine go_exit ?_ | refine next_exit ?_ | refine inb_here ?_ | refine inb_past (by decide) ?_ | refine go_ret ?_ | refine next_ret ?_ | refine inb_ret ?_))
    (apply ends_ok; (case h1 => simp; exact is_rfl); (case h2 => simp; exact is_rfl))
    simp [hk]
  have hR := Read_eq S B hB 0
  have h1 : 0 < S.length := hr.1
  have h2 : S.length ≤ 256 := hr.2.1
  by_cases h0 : (0 : Int) ∈ B
  case pos =>
    have hk : ¬ VolP S B := fun h => h.2.2.1 h0
    have hrd : readS S B 0 = ([], 21) := by unfold readS; rw [if_pos ⟨by omega, by omega⟩, if_pos h0]
    rw [hrd] at hR
    refine ⟨0, ?_, fun h => absurd h hk⟩
    (refine gives_iff ?_; refine go_func Try.f58 rfl rfl (by simp [Try.f58]) ?_; dsimp only [codeL, Try.f58, scL, sopsL, guardL, dstAt, loopKey])
    (repeat (first
    | (apply is_ok; (case hw => simp [hV, hr, hR]); (case he => simp [hV, hr, hR]; exact is_rfl))
    | (apply op_no; (case hw => simp [hV, hr, hR]))
    | refine op_nil ?_ | refine next_normal ?_ | refine go_seq ?_ | refine go_region ?_ | refine go_skip ?_ | refine go_block ?_ | refine inb_normal ?_
    | (apply go_yes; (case hc => simp [hV, hr, hR])) | (apply go_no; (case hc => simp [hV, hr, hR]))
    | refine go_exit ?_ | refine next_exit ?_ | refine inb_here ?_ | refine inb_past (by decide) ?_ | refine go_ret ?_ | refine next_ret ?_ | refine inb_ret ?_))
    (apply ends_ok; (case h1 => simp; exact is_rfl); (case h2 => simp; exact is_rfl))
    simp [hk]
  have hrd : readS S B 0 = (S.getD 0 [], 0) := by unfold readS; rw [if_pos ⟨by omega, by omega⟩, if_neg h0]; rfl
  rw [hrd] at hR
  have hl := s0_length hr
  have hG := Get_eq (S.getD 0 []) 6 (by omega) (by omega)
  have hw : word ((S.getD 0 [])[6]'(by omega)) ((S.getD 0 [])[6 + 1]'(by omega)) = swapW S := by
    unfold swapW
    rw [getD_at (l := S.getD 0 []) (i := 6) (by omega), getD_at (l := S.getD 0 []) (i := 7) (by omega)]
  rw [hw] at hG
  have hwr : 0 ≤ swapW S ∧ swapW S ≤ 65535 := by rw [← hw]; exact word_range _ _
  have hF := fits_eq S.length (swapW S) (by omega)
  have hS := super_eq S.length (swapW S) (by omega) (by omega)
  have hG' : bodyW DC 77 [.str (S.getD 0 []), .int .i64 6, .int .i64 2] [] = some (.tuple [.int .i64 (swapW S), .int .i64 8, .int .i64 0], []) := hG
  have hk : VolP S B ↔ (32 ≤ S.length ∧ swapW S ≤ S.length - 32) ∧ S.getD 0 [] = superS S.length (swapW S) := ⟨fun h => ⟨⟨h.2.1, h.2.2.2.1⟩, h.2.2.2.2⟩, fun h => ⟨hr, h.1.1, h0, h.1.2, h.2⟩⟩
  refine ⟨swapW S, ?_, fun _ => rfl⟩
  generalize swapW S = w at hG' hF hS hwr hk
  clear hG hw
  generalize S.getD 0 [] = s0 at hR hG' hk
  by_cases hf : 32 ≤ S.length ∧ w ≤ S.length - 32
  case neg =>
    have hf' : ¬ (32 ≤ (S.length : Int) ∧ (S.length : Int) ≤ 256 ∧ 0 ≤ w ∧ w ≤ (S.length : Int) - 32) := fun h => hf ⟨by omega, h.2.2.2⟩
    rw [decide_eq_false hf'] at hF
    have hk' : ¬ VolP S B := fun h => hf (hk.1 h).1
    (refine gives_iff ?_; refine go_func Try.f58 rfl rfl (by simp [Try.f58]) ?_; dsimp only [codeL, Try.f58, scL, sopsL, guardL, dstAt, loopKey])
    (repeat (first
    | (apply is_ok; (case hw => simp [hV, hr, hR, hG', hF]); (case he => simp [hV, hr, hR, hG', hF]; exact is_rfl))
    | (apply op_no; (case hw => simp [hV, hr, hR, hG', hF]))
    | refine op_nil ?_ | refine next_normal ?_ | refine go_seq ?_ | refine go_region ?_ | refine go_skip ?_ | refine go_block ?_ | refine inb_normal ?_
    | (apply go_yes; (case hc => simp [hV, hr, hR, hG', hF])) | (apply go_no; (case hc => simp [hV, hr, hR, hG', hF]))
    | refine go_exit ?_ | refine next_exit ?_ | refine inb_here ?_ | refine inb_past (by decide) ?_ | refine go_ret ?_ | refine next_ret ?_ | refine inb_ret ?_))
    (apply ends_ok; (case h1 => simp; exact is_rfl); (case h2 => simp; exact is_rfl))
    simp [hk']
  have hf' : (32 ≤ (S.length : Int) ∧ (S.length : Int) ≤ 256 ∧ 0 ≤ w ∧ w ≤ (S.length : Int) - 32) := ⟨by omega, by omega, hwr.1, hf.2⟩
  rw [decide_eq_true hf'] at hF
  by_cases hs : s0 = superS S.length w
  · have hk' : VolP S B := hk.2 ⟨hf, hs⟩
    subst hs
    (refine gives_iff ?_; refine go_func Try.f58 rfl rfl (by simp [Try.f58]) ?_; dsimp only [codeL, Try.f58, scL, sopsL, guardL, dstAt, loopKey])
    (repeat (first
    | (apply is_ok; (case hw => simp [hV, hr, hR, hG', hF, hS]); (case he => simp [hV, hr, hR, hG', hF, hS]; exact is_rfl))
    | (apply op_no; (case hw => simp [hV, hr, hR, hG', hF, hS]))
    | refine op_nil ?_ | refine next_normal ?_ | refine go_seq ?_ | refine go_region ?_ | refine go_skip ?_ | refine go_block ?_ | refine inb_normal ?_
    | (apply go_yes; (case hc => simp [hV, hr, hR, hG', hF, hS])) | (apply go_no; (case hc => simp [hV, hr, hR, hG', hF, hS]))
    | refine go_exit ?_ | refine next_exit ?_ | refine inb_here ?_ | refine inb_past (by decide) ?_ | refine go_ret ?_ | refine next_ret ?_ | refine inb_ret ?_))
    (apply ends_ok; (case h1 => simp; exact is_rfl); (case h2 => simp; exact is_rfl))
    simp [hk']
  · have hk' : ¬ VolP S B := fun h => hs (hk.1 h).2
    (refine gives_iff ?_; refine go_func Try.f58 rfl rfl (by simp [Try.f58]) ?_; dsimp only [codeL, Try.f58, scL, sopsL, guardL, dstAt, loopKey])
    (repeat (first
    | (apply is_ok; (case hw => simp [hV, hr, hR, hG', hF, hS, hs]); (case he => simp [hV, hr, hR, hG', hF, hS, hs]; exact is_rfl))
    | (apply op_no; (case hw => simp [hV, hr, hR, hG', hF, hS, hs]))
    | refine op_nil ?_ | refine next_normal ?_ | refine go_seq ?_ | refine go_region ?_ | refine go_skip ?_ | refine go_block ?_ | refine inb_normal ?_
    | (apply go_yes; (case hc => simp [hV, hr, hR, hG', hF, hS, hs])) | (apply go_no; (case hc => simp [hV, hr, hR, hG', hF, hS, hs]))
    | refine go_exit ?_ | refine next_exit ?_ | refine inb_here ?_ | refine inb_past (by decide) ?_ | refine go_ret ?_ | refine next_ret ?_ | refine inb_ret ?_))
    (apply ends_ok; (case h1 => simp; exact is_rfl); (case h2 => simp; exact is_rfl))
    simp [hk', hs]

/-- What Layout returns. -/
def layV (S : List (List UInt8)) (B : List Int) : V := if VolP S B then .tuple [.agg [.int .i64 27, .int .i64 (S.length - swapW S - 27)], .agg [.int .i64 (S.length - swapW S), .int .i64 (swapW S)], .int .i64 0]
  else .tuple [.agg [.int .i64 0, .int .i64 0], .agg [.int .i64 0, .int .i64 0], .int .i64 9]

theorem vol_bounds {S : List (List UInt8)} {B : List Int} (h : VolP S B) : 32 ≤ S.length ∧ S.length ≤ 256 ∧ 0 ≤ swapW S ∧ swapW S ≤ S.length - 32 := by
  refine ⟨h.2.1, h.1.2.1, ?_, h.2.2.2.1⟩
  unfold swapW
  exact (word_range _ _).1

theorem Layout_eq (S : List (List UInt8)) (B : List Int) (hB : B.length ≤ maxLen) : bodyW DC 72 [drv S B] [] = some (layV S B, []) := by
  obtain ⟨w, hW, hw⟩ := swapping_eq S B hB
  unfold layV
  by_cases hk : VolP S B
  · have hb := vol_bounds hk
    rw [hw hk] at hW
    have e1 : IntKind.i64.wrap ((S.length : Int) - swapW S) = S.length - swapW S := wrap_id (by omega) (by omega)
    have e2 : IntKind.i64.wrap ((S.length : Int) - swapW S - 27) = S.length - swapW S - 27 := wrap_id (by omega) (by omega)
    rw [if_pos hk]
    (refine gives_iff ?_; refine go_func Try.f72 rfl rfl (by simp [Try.f72]) ?_; dsimp only [codeL, Try.f72, scL, sopsL, guardL, dstAt, loopKey])
    (repeat (first
    | (apply is_ok; (case hw => simp [hW, hk, e1, e2]); (case he => simp [hW, hk, e1, e2]; exact is_rfl))
    | (apply op_no; (case hw => simp [hW, hk, e1, e2]))
    | refine op_nil ?_ | refine next_normal ?_ | refine go_seq ?_ | refine go_region ?_ | refine go_skip ?_ | refine go_block ?_ | refine inb_normal ?_
    | (apply go_yes; (case hc => simp [hW, hk, e1, e2])) | (apply go_no; (case hc => simp [hW, hk, e1, e2]))
    | refine go_exit ?_ | refine next_exit ?_ | refine inb_here ?_ | refine inb_past (by decide) ?_ | refine go_ret ?_ | refine next_ret ?_ | refine inb_ret ?_))
    (apply ends_ok; (case h1 => simp; exact is_rfl); (case h2 => simp; exact is_rfl))
    simp
  · rw [if_neg hk]
    (refine gives_iff ?_; refine go_func Try.f72 rfl rfl (by simp [Try.f72]) ?_; dsimp only [codeL, Try.f72, scL, sopsL, guardL, dstAt, loopKey])
    (repeat (first
    | (apply is_ok; (case hw => simp [hW, hk]); (case he => simp [hW, hk]; exact is_rfl))
    | (apply op_no; (case hw => simp [hW, hk]))
    | refine op_nil ?_ | refine next_normal ?_ | refine go_seq ?_ | refine go_region ?_ | refine go_skip ?_ | refine go_block ?_ | refine inb_normal ?_
    | (apply go_yes; (case hc => simp [hW, hk])) | (apply go_no; (case hc => simp [hW, hk]))
    | refine go_exit ?_ | refine next_exit ?_ | refine inb_here ?_ | refine inb_past (by decide) ?_ | refine go_ret ?_ | refine next_ret ?_ | refine inb_ret ?_))
    (apply ends_ok; (case h1 => simp; exact is_rfl); (case h2 => simp; exact is_rfl))
    simp

theorem LayoutR_eq (S : List (List UInt8)) (B : List Int) (hB : B.length ≤ maxLen) : bodyW DC 33 [drv S B] [] = some (layV S B, []) := by
  have hV := RightR_eq S B hB
  unfold layV
  by_cases hr : RightP S B
  case neg =>
    have hk : ¬ VolP S B := fun h => hr h.1
    rw [if_neg hk]
    (refine gives_iff ?_; refine go_func Try.f33 rfl rfl (by simp [Try.f33]) ?_; dsimp only [codeL, Try.f33, scL, sopsL, guardL, dstAt, loopKey])
    (repeat (first
    | (apply is_ok; (case hw => simp [hV, hr]); (case he => simp [hV, hr]; exact is_rfl))
    | (apply op_no; (case hw => simp [hV, hr]))
    | refine op_nil ?_ | refine next_normal ?_ | refine go_seq ?_ | refine go_region ?_ | refine go_skip ?_ | refine go_block ?_ | refine inb_normal ?_
    | (apply go_yes; (case hc => simp [hV, hr])) | (apply go_no; (case hc => simp [hV, hr]))
    | refine go_exit ?_ | refine next_exit ?_ | refine inb_here ?_ | refine inb_past (by decide) ?_ | refine go_ret ?_ | refine next_ret ?_ | refine inb_ret ?_))
    (apply ends_ok; (case h1 => simp; exact is_rfl); (case h2 => simp; exact is_rfl))
    simp
  have h2 : S.length ≤ 256 := hr.2.1
  have e2 : ¬ (256 : Int) < S.length := by omega
  by_cases h1 : 32 ≤ S.length
  case neg =>
    have hk : ¬ VolP S B := fun h => h1 h.2.1
    have e1 : (S.length : Int) < 32 := by omega
    rw [if_neg hk]
    (refine gives_iff ?_; refine go_func Try.f33 rfl rfl (by simp [Try.f33]) ?_; dsimp only [codeL, Try.f33, scL, sopsL, guardL, dstAt, loopKey])
    (repeat (first
    | (apply is_ok; (case hw => simp [hV, hr, e1]); (case he => simp [hV, hr, e1]; exact is_rfl))
    | (apply op_no; (case hw => simp [hV, hr, e1]))
    | refine op_nil ?_ | refine next_normal ?_ | refine go_seq ?_ | refine go_region ?_ | refine go_skip ?_ | refine go_block ?_ | refine inb_normal ?_
    | (apply go_yes; (case hc => simp [hV, hr, e1])) | (apply go_no; (case hc => simp [hV, hr, e1]))
    | refine go_exit ?_ | refine next_exit ?_ | refine inb_here ?_ | refine inb_past (by decide) ?_ | refine go_ret ?_ | refine next_ret ?_ | refine inb_ret ?_))
    (apply ends_ok; (case h1 => simp; exact is_rfl); (case h2 => simp; exact is_rfl))
    simp
  have e1 : ¬ (S.length : Int) < 32 := by omega
  have hI := bad_eq S B hB 0
  by_cases h0 : (0 : Int) ∈ B
  case pos =>
    have hk : ¬ VolP S B := fun h => h.2.2.1 h0
    rw [if_neg hk]
    (refine gives_iff ?_; refine go_func Try.f33 rfl rfl (by simp [Try.f33]) ?_; dsimp only [codeL, Try.f33, scL, sopsL, guardL, dstAt, loopKey])
    (repeat (first
    | (apply is_ok; (case hw => simp [hV, hr, e1, e2, hI, h0]); (case he => simp [hV, hr, e1, e2, hI, h0]; exact is_rfl))
    | (apply op_no; (case hw => simp [hV, hr, e1, e2, hI, h0]))
    | refine op_nil ?_ | refine next_normal ?_ | refine go_seq ?_ | refine go_region ?_ | refine go_skip ?_ | refine go_block ?_ | refine inb_normal ?_
    | (apply go_yes; (case hc => simp [hV, hr, e1, e2, hI, h0])) | (apply go_no; (case hc => simp [hV, hr, e1, e2, hI, h0]))
    | refine go_exit ?_ | refine next_exit ?_ | refine inb_here ?_ | refine inb_past (by decide) ?_ | refine go_ret ?_ | refine next_ret ?_ | refine inb_ret ?_))
    (apply ends_ok; (case h1 => simp; exact is_rfl); (case h2 => simp; exact is_rfl))
    simp
  have hl := s0_length hr
  have hG := GetR_eq (S.getD 0 []) 6 (by omega) (by omega)
  have hw : word ((S.getD 0 [])[6]'(by omega)) ((S.getD 0 [])[6 + 1]'(by omega)) = swapW S := by
    unfold swapW
    rw [getD_at (l := S.getD 0 []) (i := 6) (by omega), getD_at (l := S.getD 0 []) (i := 7) (by omega)]
  rw [hw] at hG
  have hwr : 0 ≤ swapW S ∧ swapW S ≤ 65535 := by rw [← hw]; exact word_range _ _
  have hS := head_eq S.length (swapW S) (by omega) (by omega)
  have hG' : bodyW DC 56 [.str (S.getD 0 []), .int .i64 6, .int .i64 2] [] = some (.tuple [.int .i64 (swapW S), .int .i64 8, .int .i64 0], []) := hG
  have hk : VolP S B ↔ swapW S ≤ S.length - 32 ∧ S.getD 0 [] = superS S.length (swapW S) := ⟨fun h => ⟨h.2.2.2.1, h.2.2.2.2⟩, fun h => ⟨hr, h1, h0, h.1, h.2⟩⟩
  have hg0 : S[0]? = some (S.getD 0 []) := by rw [List.getElem?_eq_getElem (by omega), getD_at (by omega)]
  have hpos : 0 < S.length := by omega
  have hg1 : S[0]'hpos = S.getD 0 [] := by rw [getD_at hpos]
  have e3 : IntKind.i64.wrap ((S.length : Int) - 32) = S.length - 32 := wrap_id (by omega) (by omega)
  clear hG hw
  generalize swapW S = w at hG' hS hwr hk
  generalize S.getD 0 [] = s0 at hG' hk hg0 hg1
  by_cases hf : w ≤ S.length - 32
  case neg =>
    have hk' : ¬ VolP S B := fun h => hf (hk.1 h).1
    have hf' : (S.length : Int) - 32 < w := by omega
    rw [if_neg hk']
    (refine gives_iff ?_; refine go_func Try.f33 rfl rfl (by simp [Try.f33]) ?_; dsimp only [codeL, Try.f33, scL, sopsL, guardL, dstAt, loopKey])
    (repeat (first
    | (apply is_ok; (case hw => simp [hV, hr, e1, e2, e3, hI, h0, hG', hg0, hg1, hpos, hf, hf']); (case he => simp [hV, hr, e1, e2, e3, hI, h0, hG', hg0, hg1, hpos, hf, hf']; exact is_rfl))
    | (apply op_no; (case hw => simp [hV, hr, e1, e2, e3, hI, h0, hG', hg0, hg1, hpos, hf, hf']))
    | refine op_nil ?_ | refine next_normal ?_ | refine go_seq ?_ | refine go_region ?_ | refine go_skip ?_ | refine go_block ?_ | refine inb_normal ?_
    | (apply go_yes; (case hc => simp [hV, hr, e1, e2, e3, hI, h0, hG', hg0, hg1, hpos, hf, hf'])) | (apply go_no; (case hc => simp [hV, hr, e1, e2, e3, hI, h0, hG', hg0, hg1, hpos, hf, hf']))
    | refine go_exit ?_ | refine next_exit ?_ | refine inb_here ?_ | refine inb_past (by decide) ?_ | refine go_ret ?_ | refine next_ret ?_ | refine inb_ret ?_))
    (apply ends_ok; (case h1 => simp; exact is_rfl); (case h2 => simp; exact is_rfl))
    simp
  have hf' : ¬ (S.length : Int) - 32 < w := by omega
  by_cases hs : s0 = superS S.length w
  · have hk' : VolP S B := hk.2 ⟨hf, hs⟩
    subst hs
    have e4 : IntKind.i64.wrap ((S.length : Int) - w) = S.length - w := wrap_id (by omega) (by omega)
    have e5 : IntKind.i64.wrap ((S.length : Int) - w - 27) = S.length - w - 27 := wrap_id (by omega) (by omega)
    rw [if_pos hk']
    (refine gives_iff ?_; refine go_func Try.f33 rfl rfl (by simp [Try.f33]) ?_; dsimp only [codeL, Try.f33, scL, sopsL, guardL, dstAt, loopKey])
    (repeat (first
    | (apply is_ok; (case hw => simp [hV, hr, e1, e2, e3, e4, e5, hI, h0, hG', hg0, hg1, hpos, hf, hf', hS]); (case he => simp [hV, hr, e1, e2, e3, e4, e5, hI, h0, hG', hg0, hg1, hpos, hf, hf', hS]; exact is_rfl))
    | (apply op_no; (case hw => simp [hV, hr, e1, e2, e3, e4, e5, hI, h0, hG', hg0, hg1, hpos, hf, hf', hS]))
    | refine op_nil ?_ | refine next_normal ?_ | refine go_seq ?_ | refine go_region ?_ | refine go_skip ?_ | refine go_block ?_ | refine inb_normal ?_
    | (apply go_yes; (case hc => simp [hV, hr, e1, e2, e3, e4, e5, hI, h0, hG', hg0, hg1, hpos, hf, hf', hS])) | (apply go_no; (case hc => simp [hV, hr, e1, e2, e3, e4, e5, hI, h0, hG', hg0, hg1, hpos, hf, hf', hS]))
    | refine go_exit ?_ | refine next_exit ?_ | refine inb_here ?_ | refine inb_past (by decide) ?_ | refine go_ret ?_ | refine next_ret ?_ | refine inb_ret ?_))
    (apply ends_ok; (case h1 => simp; exact is_rfl); (case h2 => simp; exact is_rfl))
    simp
  · have hk' : ¬ VolP S B := fun h => hs (hk.1 h).2
    rw [if_neg hk']
    (refine gives_iff ?_; refine go_func Try.f33 rfl rfl (by simp [Try.f33]) ?_; dsimp only [codeL, Try.f33, scL, sopsL, guardL, dstAt, loopKey])
    (repeat (first
    | (apply is_ok; (case hw => simp [hV, hr, e1, e2, e3, hI, h0, hG', hg0, hg1, hpos, hf, hf', hS, hs]); (case he => simp [hV, hr, e1, e2, e3, hI, h0, hG', hg0, hg1, hpos, hf, hf', hS, hs]; exact is_rfl))
    | (apply op_no; (case hw => simp [hV, hr, e1, e2, e3, hI, h0, hG', hg0, hg1, hpos, hf, hf', hS, hs]))
    | refine op_nil ?_ | refine next_normal ?_ | refine go_seq ?_ | refine go_region ?_ | refine go_skip ?_ | refine go_block ?_ | refine inb_normal ?_
    | (apply go_yes; (case hc => simp [hV, hr, e1, e2, e3, hI, h0, hG', hg0, hg1, hpos, hf, hf', hS, hs])) | (apply go_no; (case hc => simp [hV, hr, e1, e2, e3, hI, h0, hG', hg0, hg1, hpos, hf, hf', hS, hs]))
    | refine go_exit ?_ | refine next_exit ?_ | refine inb_here ?_ | refine inb_past (by decide) ?_ | refine go_ret ?_ | refine next_ret ?_ | refine inb_ret ?_))
    (apply ends_ok; (case h1 => simp; exact is_rfl); (case h2 => simp; exact is_rfl))
    simp
end Go.Abs

