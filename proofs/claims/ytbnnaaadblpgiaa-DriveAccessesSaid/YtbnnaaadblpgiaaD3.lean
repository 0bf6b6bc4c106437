/- Proved here: what functions of the program compute, over the evaluator. No condition but those that each theorem states. -/
import Derived.Test.YtbnnaaadblpgiaaD2
namespace Go.Abs
open Go.Proofs
set_option maxRecDepth 100000
set_option linter.unusedSimpArgs false

theorem has_eq (S : List (List UInt8)) (B : List Int) (k : Int) : bodyW DC 18 [drv S B, .int .i64 k] [] = some (.bool (decide (0 ≤ k ∧ k < S.length)), []) := by
  (refine gives_iff ?_; refine go_func Try.f18 rfl rfl (by simp [Try.f18]) ?_; dsimp only [codeL, Try.f18, scL, sopsL, guardL, dstAt, loopKey])
  by_cases h1 : 0 ≤ k
  · (repeat (first
    | (apply is_ok; (case hw => simp [h1]); (case he => simp [h1]; exact is_rfl))
    | (apply op_no; (case hw => simp [h1]))
    | refine op_nil ?_ | refine next_normal ?_ | refine go_seq ?_ | refine go_region ?_ | refine go_skip ?_ | refine go_block ?_ | refine inb_normal ?_
    | (apply go_yes; (case hc => simp [h1])) | (apply go_no; (case hc => simp [h1]))
    | refine go_exit ?_ | refine next_exit ?_ | refine inb_here ?_ | refine inb_past (by decide) ?_ | refine go_ret ?_ | refine next_ret ?_ | refine inb_ret ?_))
    (apply ends_ok; (case h1 => simp; exact is_rfl); (case h2 => simp; exact is_rfl))
    simp [h1]
  · (repeat (first
    | (apply is_ok; (case hw => simp [h1]); (case he => simp [h1]; exact is_rfl))
    | (apply op_no; (case hw => simp [h1]))
    | refine op_nil ?_ | refine next_normal ?_ | refine go_seq ?_ | refine go_region ?_ | refine go_skip ?_ | refine go_block ?_ | refine inb_normal ?_
    | (apply go_yes; (case hc => simp [h1])) | (apply go_no; (case hc => simp [h1]))
    | refine go_exit ?_ | refine next_exit ?_ | refine inb_here ?_ | refine inb_past (by decide) ?_ | refine go_ret ?_ | refine next_ret ?_ | refine inb_ret ?_))
    (apply ends_ok; (case h1 => simp; exact is_rfl); (case h2 => simp; exact is_rfl))
    simp [h1]

theorem Isbad_eq (S : List (List UInt8)) (B : List Int) (hB : B.length ≤ maxLen) (k : Int) : bodyW DC 20 [drv S B, .int .i64 k] [] = some (.bool (decide (k ∈ B)), []) := by
  unfold maxLen at hB
  (refine gives_iff ?_; refine go_func Try.f20 rfl rfl (by simp [Try.f20]) ?_; dsimp only [codeL, Try.f20, scL, sopsL, guardL, dstAt, loopKey])
  (repeat (first
    | (apply is_ok; (case hw => simp); (case he => simp; exact is_rfl))
    | (apply op_no; (case hw => simp))
    | refine op_nil ?_ | refine next_normal ?_ | refine go_seq ?_ | refine go_region ?_ | refine go_skip ?_ | refine go_block ?_ | refine inb_normal ?_
    | (apply go_yes; (case hc => simp)) | (apply go_no; (case hc => simp))
    | refine go_exit ?_ | refine next_exit ?_ | refine inb_here ?_ | refine inb_past (by decide) ?_ | refine go_ret ?_ | refine next_ret ?_ | refine inb_ret ?_))
  refine go_count B.length (fun i => [(1, .int .i64 k), (2, .ptr 0 1 0 0), (5, .int .i64 i)]) (fun _ => [.box (drv S B)]) (fun i => ∀ j (hj : j < B.length), j < i → B[j] ≠ k) (by simp) (by simp) fun i hi hI => ?_
  by_cases hlt : i < B.length
  · have hw : IntKind.i64.wrap ((i : Int) + 1) = (i : Int) + 1 := wrap_id (by omega) (by omega)
    by_cases h3 : B[i] = k
    · (repeat (first
    | (apply is_ok; (case hw => simp [hlt, h3]); (case he => simp [hlt, h3]; exact is_rfl))
    | (apply op_no; (case hw => simp [hlt, h3]))
    | refine op_nil ?_ | refine next_normal ?_ | refine go_seq ?_ | refine go_region ?_ | refine go_skip ?_ | refine go_block ?_ | refine inb_normal ?_
    | (apply go_yes; (case hc => simp [hlt, h3])) | (apply go_no; (case hc => simp [hlt, h3]))
    | refine go_exit ?_ | refine next_exit ?_ | refine inb_here ?_ | refine inb_past (by decide) ?_ | refine go_ret ?_ | refine next_ret ?_ | refine inb_ret ?_))
      (apply ends_ok; (case h1 => simp; exact is_rfl); (case h2 => simp; exact is_rfl))
      have : k ∈ B := h3 ▸ List.getElem_mem hlt
      simp [this]
    · (repeat (first
    | (apply is_ok; (case hw => simp [hlt, h3]); (case he => simp [hlt, h3]; exact is_rfl))
    | (apply op_no; (case hw => simp [hlt, h3]))
    | refine op_nil ?_ | refine next_normal ?_ | refine go_seq ?_ | refine go_region ?_ | refine go_skip ?_ | refine go_block ?_ | refine inb_normal ?_
    | (apply go_yes; (case hc => simp [hlt, h3])) | (apply go_no; (case hc => simp [hlt, h3]))
    | refine go_exit ?_ | refine next_exit ?_ | refine inb_here ?_ | refine inb_past (by decide) ?_ | refine go_ret ?_ | refine next_ret ?_ | refine inb_ret ?_))
      exact ⟨hlt, by simp [hw], fun j hj hji => by
        by_cases hje : j = i
        · subst hje; exact h3
        · exact hI j hj (by omega)⟩
  · (repeat (first
    | (apply is_ok; (case hw => simp [hlt]); (case he => simp [hlt]; exact is_rfl))
    | (apply op_no; (case hw => simp [hlt]))
    | refine op_nil ?_ | refine next_normal ?_ | refine go_seq ?_ | refine go_region ?_ | refine go_skip ?_ | refine go_block ?_ | refine inb_normal ?_
    | (apply go_yes; (case hc => simp [hlt])) | (apply go_no; (case hc => simp [hlt]))
    | refine go_exit ?_ | refine next_exit ?_ | refine inb_here ?_ | refine inb_past (by decide) ?_ | refine go_ret ?_ | refine next_ret ?_ | refine inb_ret ?_))
    (apply ends_ok; (case h1 => simp; exact is_rfl); (case h2 => simp; exact is_rfl))
    have : k ∉ B := fun h => by
      obtain ⟨j, hj, h⟩ := List.getElem_of_mem h
      exact hI j hj (by omega) h
    simp [this]

theorem RightR_eq (S : List (List UInt8)) (B : List Int) (hB : B.length ≤ maxLen) : bodyW DC 14 [drv S B] [] = some (.bool (decide (RightP S B)), []) := by
  unfold maxLen at hB
  (refine gives_iff ?_; refine go_func Try.f14 rfl rfl (by simp [Try.f14]) ?_; dsimp only [codeL, Try.f14, scL, sopsL, guardL, dstAt, loopKey])
  by_cases h1 : 1 ≤ S.length
  case neg =>
    have e1 : ((S.length : Int) < 1) := by omega
    (repeat (first
    | (apply is_ok; (case hw => simp [e1]); (case he => simp [e1]; exact is_rfl))
    | (apply op_no; (case hw => simp [e1]))
    | refine op_nil ?_ | refine next_normal ?_ | refine go_seq ?_ | refine go_region ?_ | refine go_skip ?_ | refine go_block ?_ | refine inb_normal ?_
    | (apply go_yes; (case hc => simp [e1])) | (apply go_no; (case hc => simp [e1]))
    | refine go_exit ?_ | refine next_exit ?_ | refine inb_here ?_ | refine inb_past (by decide) ?_ | refine go_ret ?_ | refine next_ret ?_ | refine inb_ret ?_))
    (apply ends_ok; (case h1 => simp; exact is_rfl); (case h2 => simp; exact is_rfl))
    have : ¬ RightP S B := fun h => h1 h.1
    simp [this]
  have e1 : ¬ ((S.length : Int) < 1) := by omega
  by_cases h2 : S.length ≤ 256
  case neg =>
    have e2 : ((256 : Int) < S.length) := by omega
    (repeat (first
    | (apply is_ok; (case hw => simp [e1, e2]); (case he => simp [e1, e2]; exact is_rfl))
    | (apply op_no; (case hw => simp [e1, e2]))
    | refine op_nil ?_ | refine next_normal ?_ | refine go_seq ?_ | refine go_region ?_ | refine go_skip ?_ | refine go_block ?_ | refine inb_normal ?_
    | (apply go_yes; (case hc => simp [e1, e2])) | (apply go_no; (case hc => simp [e1, e2]))
    | refine go_exit ?_ | refine next_exit ?_ | refine inb_here ?_ | refine inb_past (by decide) ?_ | refine go_ret ?_ | refine next_ret ?_ | refine inb_ret ?_))
    (apply ends_ok; (case h1 => simp; exact is_rfl); (case h2 => simp; exact is_rfl))
    have : ¬ RightP S B := fun h => h2 h.2.1
    simp [this]
  have e2 : ¬ ((256 : Int) < S.length) := by omega
  (repeat (first
    | (apply is_ok; (case hw => simp [e1, e2]); (case he => simp [e1, e2]; exact is_rfl))
    | (apply op_no; (case hw => simp [e1, e2]))
    | refine op_nil ?_ | refine next_normal ?_ | refine go_seq ?_ | refine go_region ?_ | refine go_skip ?_ | refine go_block ?_ | refine inb_normal ?_
    | (apply go_yes; (case hc => simp [e1, e2])) | (apply go_no; (case hc => simp [e1, e2]))
    | refine go_exit ?_ | refine next_exit ?_ | refine inb_here ?_ | refine inb_past (by decide) ?_ | refine go_ret ?_ | refine next_ret ?_ | refine inb_ret ?_))
  refine go_count S.length (fun i => [(1, .ptr 0 1 0 0), (3, .int .i64 i)]) (fun _ => [.box (drv S B)]) (fun i => ∀ j (hj : j < S.length), j < i → S[j].length = 128) (by simp) (by simp) fun i hi hI => ?_
  have hw : IntKind.i64.wrap ((i : Int) + 1) = (i : Int) + 1 := wrap_id (by omega) (by omega)
  by_cases hlt : i < S.length
  · by_cases h3 : S[i].length = 128
    · have e3 : ((S[i].length : Int) = 128) := by omega
      (repeat (first
    | (apply is_ok; (case hw => simp [hlt, h3, e3]); (case he => simp [hlt, h3, e3]; exact is_rfl))
    | (apply op_no; (case hw => simp [hlt, h3, e3]))
    | refine op_nil ?_ | refine next_normal ?_ | refine go_seq ?_ | refine go_region ?_ | refine go_skip ?_ | refine go_block ?_ | refine inb_normal ?_
    | (apply go_yes; (case hc => simp [hlt, h3, e3])) | (apply go_no; (case hc => simp [hlt, h3, e3]))
    | refine go_exit ?_ | refine next_exit ?_ | refine inb_here ?_ | refine inb_past (by decide) ?_ | refine go_ret ?_ | refine next_ret ?_ | refine inb_ret ?_))
      exact ⟨hlt, by simp [hw], fun j hj hji => by
        by_cases hje : j = i
        · subst hje; exact h3
        · exact hI j hj (by omega)⟩
    · have e3 : ¬ ((S[i].length : Int) = 128) := by omega
      (repeat (first
    | (apply is_ok; (case hw => simp [hlt, h3, e3]); (case he => simp [hlt, h3, e3]; exact is_rfl))
    | (apply op_no; (case hw => simp [hlt, h3, e3]))
    | refine op_nil ?_ | refine next_normal ?_ | refine go_seq ?_ | refine go_region ?_ | refine go_skip ?_ | refine go_block ?_ | refine inb_normal ?_
    | (apply go_yes; (case hc => simp [hlt, h3, e3])) | (apply go_no; (case hc => simp [hlt, h3, e3]))
    | refine go_exit ?_ | refine next_exit ?_ | refine inb_here ?_ | refine inb_past (by decide) ?_ | refine go_ret ?_ | refine next_ret ?_ | refine inb_ret ?_))
      (apply ends_ok; (case h1 => simp; exact is_rfl); (case h2 => simp; exact is_rfl))
      have : ¬ RightP S B := fun h => h3 (h.2.2.1 _ (List.getElem_mem hlt))
      simp [this]
  clear hw
  (repeat (first
    | (apply is_ok; (case hw => simp [hlt]); (case he => simp [hlt]; exact is_rfl))
    | (apply op_no; (case hw => simp [hlt]))
    | refine op_nil ?_ | refine next_normal ?_ | refine go_seq ?_ | refine go_region ?_ | refine go_skip ?_ | refine go_block ?_ | refine inb_normal ?_
    | (apply go_yes; (case hc => simp [hlt])) | (apply go_no; (case hc => simp [hlt]))
    | refine go_exit ?_ | refine next_exit ?_ | refine inb_here ?_ | refine inb_past (by decide) ?_ | refine go_ret ?_ | refine next_ret ?_ | refine inb_ret ?_))
  have hS : ∀ s ∈ S, s.length = 128 := fun s hs => by
    obtain ⟨j, hj, rfl⟩ := List.getElem_of_mem hs
    exact hI j hj (by omega)
  clear hlt hI hi
  refine go_count B.length (fun i => [(1, .ptr 0 1 0 0), (4, .int .i64 i)]) (fun _ => [.box (drv S B)]) (fun i => ∀ j (hj : j < B.length), j < i → 0 ≤ B[j] ∧ B[j] < S.length ∧ (1 ≤ j → B.getD (j - 1) 0 < B[j])) (by simp) (by simp) fun k hk hI => ?_
  by_cases hlt : k < B.length
  · have hw : IntKind.i64.wrap ((k : Int) + 1) = (k : Int) + 1 := wrap_id (by omega) (by omega)
    by_cases h3 : 0 ≤ B[k]
    case neg =>
      have e3 : B[k] < 0 := by omega
      (repeat (first
    | (apply is_ok; (case hw => simp [hlt, h3, e3]); (case he => simp [hlt, h3, e3]; exact is_rfl))
    | (apply op_no; (case hw => simp [hlt, h3, e3]))
    | refine op_nil ?_ | refine next_normal ?_ | refine go_seq ?_ | refine go_region ?_ | refine go_skip ?_ | refine go_block ?_ | refine inb_normal ?_
    | (apply go_yes; (case hc => simp [hlt, h3, e3])) | (apply go_no; (case hc => simp [hlt, h3, e3]))
    | refine go_exit ?_ | refine next_exit ?_ | refine inb_here ?_ | refine inb_past (by decide) ?_ | refine go_ret ?_ | refine next_ret ?_ | refine inb_ret ?_))
      (apply ends_ok; (case h1 => simp; exact is_rfl); (case h2 => simp; exact is_rfl))
      have : ¬ RightP S B := fun h => h3 (h.2.2.2.1 _ (List.getElem_mem hlt)).1
      simp [this]
    have e3 : ¬ (B[k] < 0) := by omega
    by_cases h4 : B[k] < S.length
    case neg =>
      have e4 : (S.length : Int) ≤ B[k] := by omega
      (repeat (first
    | (apply is_ok; (case hw => simp [hlt, h3, e3, h4, e4]); (case he => simp [hlt, h3, e3, h4, e4]; exact is_rfl))
    | (apply op_no; (case hw => simp [hlt, h3, e3, h4, e4]))
    | refine op_nil ?_ | refine next_normal ?_ | refine go_seq ?_ | refine go_region ?_ | refine go_skip ?_ | refine go_block ?_ | refine inb_normal ?_
    | (apply go_yes; (case hc => simp [hlt, h3, e3, h4, e4])) | (apply go_no; (case hc => simp [hlt, h3, e3, h4, e4]))
    | refine go_exit ?_ | refine next_exit ?_ | refine inb_here ?_ | refine inb_past (by decide) ?_ | refine go_ret ?_ | refine next_ret ?_ | refine inb_ret ?_))
      (apply ends_ok; (case h1 => simp; exact is_rfl); (case h2 => simp; exact is_rfl))
      have : ¬ RightP S B := fun h => h4 (h.2.2.2.1 _ (List.getElem_mem hlt)).2
      simp [this]
    have e4 : ¬ ((S.length : Int) ≤ B[k]) := by omega
    by_cases h5 : 0 < k
    · have hlt' : k - 1 < B.length := by omega
      have hw1 : IntKind.i64.wrap ((k : Int) - 1) = ((k - 1 : Nat) : Int) := by rw [wrap_id (by omega) (by omega)]; omega
      by_cases h6 : B[k - 1] < B[k]
      · have e6 : ¬ (B[k] ≤ B[k - 1]) := by omega
        (repeat (first
    | (apply is_ok; (case hw => simp [hlt, h3, e3, h4, e4, h5, hlt', hw1, h6, e6]); (case he => simp [hlt, h3, e3, h4, e4, h5, hlt', hw1, h6, e6]; exact is_rfl))
    | (apply op_no; (case hw => simp [hlt, h3, e3, h4, e4, h5, hlt', hw1, h6, e6]))
    | refine op_nil ?_ | refine next_normal ?_ | refine go_seq ?_ | refine go_region ?_ | refine go_skip ?_ | refine go_block ?_ | refine inb_normal ?_
    | (apply go_yes; (case hc => simp [hlt, h3, e3, h4, e4, h5, hlt', hw1, h6, e6])) | (apply go_no; (case hc => simp [hlt, h3, e3, h4, e4, h5, hlt', hw1, h6, e6]))
    | refine go_exit ?_ | refine next_exit ?_ | refine inb_here ?_ | refine inb_past (by decide) ?_ | refine go_ret ?_ | refine next_ret ?_ | refine inb_ret ?_))
        exact ⟨hlt, by simp [hw], fun j hj hji => by
          by_cases hje : j = k
          · subst hje; exact ⟨h3, h4, fun _ => by simpa [hlt'] using h6⟩
          · exact hI j hj (by omega)⟩
      · have e6 : (B[k] ≤ B[k - 1]) := by omega
        (repeat (first
    | (apply is_ok; (case hw => simp [hlt, h3, e3, h4, e4, h5, hlt', hw1, h6, e6]); (case he => simp [hlt, h3, e3, h4, e4, h5, hlt', hw1, h6, e6]; exact is_rfl))
    | (apply op_no; (case hw => simp [hlt, h3, e3, h4, e4, h5, hlt', hw1, h6, e6]))
    | refine op_nil ?_ | refine next_normal ?_ | refine go_seq ?_ | refine go_region ?_ | refine go_skip ?_ | refine go_block ?_ | refine inb_normal ?_
    | (apply go_yes; (case hc => simp [hlt, h3, e3, h4, e4, h5, hlt', hw1, h6, e6])) | (apply go_no; (case hc => simp [hlt, h3, e3, h4, e4, h5, hlt', hw1, h6, e6]))
    | refine go_exit ?_ | refine next_exit ?_ | refine inb_here ?_ | refine inb_past (by decide) ?_ | refine go_ret ?_ | refine next_ret ?_ | refine inb_ret ?_))
        (apply ends_ok; (case h1 => simp; exact is_rfl); (case h2 => simp; exact is_rfl))
        have : ¬ RightP S B := fun h => by
          have := h.2.2.2.2 k (List.mem_range.2 hlt) h5
          simp [hlt, hlt'] at this
          omega
        simp [this]
    · (repeat (first
    | (apply is_ok; (case hw => simp [hlt, h3, e3, h4, e4, h5]); (case he => simp [hlt, h3, e3, h4, e4, h5]; exact is_rfl))
    | (apply op_no; (case hw => simp [hlt, h3, e3, h4, e4, h5]))
    | refine op_nil ?_ | refine next_normal ?_ | refine go_seq ?_ | refine go_region ?_ | refine go_skip ?_ | refine go_block ?_ | refine inb_normal ?_
    | (apply go_yes; (case hc => simp [hlt, h3, e3, h4, e4, h5])) | (apply go_no; (case hc => simp [hlt, h3, e3, h4, e4, h5]))
    | refine go_exit ?_ | refine next_exit ?_ | refine inb_here ?_ | refine inb_past (by decide) ?_ | refine go_ret ?_ | refine next_ret ?_ | refine inb_ret ?_))
      exact ⟨hlt, by simp [hw], fun j hj hji => by
        by_cases hje : j = k
        · subst hje; exact ⟨h3, h4, fun _ => by omega⟩
        · exact hI j hj (by omega)⟩
  · (repeat (first
    | (apply is_ok; (case hw => simp [hlt]); (case he => simp [hlt]; exact is_rfl))
    | (apply op_no; (case hw => simp [hlt]))
    | refine op_nil ?_ | refine next_normal ?_ | refine go_seq ?_ | refine go_region ?_ | refine go_skip ?_ | refine go_block ?_ | refine inb_normal ?_
    | (apply go_yes; (case hc => simp [hlt])) | (apply go_no; (case hc => simp [hlt]))
    | refine go_exit ?_ | refine next_exit ?_ | refine inb_here ?_ | refine inb_past (by decide) ?_ | refine go_ret ?_ | refine next_ret ?_ | refine inb_ret ?_))
    (apply ends_ok; (case h1 => simp; exact is_rfl); (case h2 => simp; exact is_rfl))
    have : RightP S B := ⟨h1, h2, hS, fun b hb => by
      obtain ⟨j, hj, rfl⟩ := List.getElem_of_mem hb
      exact ⟨(hI j hj (by omega)).1, (hI j hj (by omega)).2.1⟩, fun j hj h => by
      have hj' := List.mem_range.1 hj
      have := (hI j hj' (by omega)).2.2 h
      simpa [hj'] using this⟩
    simp [this]
end Go.Abs
