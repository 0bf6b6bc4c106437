/- Proved here: what functions of the program compute, over the evaluator. No condition but those that each theorem states. -/
import Derived.Test.YtfgikfagblhkiaaGreatDoorM2
import Derived.Test.YtfgikfagblhkiaaGreatDoorTF
namespace Go.Abs
open Go.Proofs
set_option maxRecDepth 100000
set_option linter.unusedSimpArgs false

theorem has_eq (S : List (List UInt8)) (B : List Int) (k : Int) : bodyW DC 159 [drv S B, .int .i64 k] [] = some (.bool (decide (0 ≤ k ∧ k < S.length)), []) := by
  (refine gives_iff ?_; refine go_func Tryz.f159 rfl rfl (by simp [Tryz.f159]) ?_; dsimp only [codeL, Tryz.f159, scL, sopsL, guardL, dstAt, loopKey])
  by_cases h1 : 0 ≤ k
  · (repeat (first
    | (apply is_ok; (case hw => simp [h1]); (case he => simp [h1]; exact is_rfl))
    | (apply op_no; (case hw => simp [h1]))
    | refine op_nil ?_ | refine next_normal ?_ | refine go_seq ?_ | refine go_region ?_ | refine go_skip ?_ | refine go_block ?_ | refine inb_normal ?_
    | (apply go_yes; (case hc => simp [h1])) | (apply go_no; (case hc => simp [h1]))
    | refine go_exit ?_ | refine next_exit ?_ | refine inb_here ?_ | refine inb_past (by decide) ?_ | refine go_ret ?_ | refine next_ret ?_ | refine inb_ret ?_))
    (apply ends_ok; (case h1 => simp; exact is_rfl); (case h2 => simp; exact is_rfl))
    simp [h1]
  · (repeat (first
    | (apply is_ok; (case hw => simp [h1]); (case he => simp [h1]; exact is_rfl))
    | (apply op_no; (case hw => simp [h1]))
    | refine op_nil ?_ | refine next_normal ?_ | refine go_seq ?_ | refine go_region ?_ | refine go_skip ?_ | refine go_block ?_ | refine inb_normal ?_
    | (apply go_yes; (case hc => simp [h1])) | (apply go_no; (case hc => simp [h1]))
    | refine go_exit ?_ | refine next_exit ?_ | refine inb_here ?_ | refine inb_past (by decide) ?_ | refine go_ret ?_ | refine next_ret ?_ | refine inb_ret ?_))
    (apply ends_ok; (case h1 => simp; exact is_rfl); (case h2 => simp; exact is_rfl))
    simp [h1]

theorem Isbad_eq (S : List (List UInt8)) (B : List Int) (hB : B.length ≤ maxLen) (k : Int) : bodyW DC 162 [drv S B, .int .i64 k] [] = some (.bool (decide (k ∈ B)), []) := by
  unfold maxLen at hB
  (refine gives_iff ?_; refine go_func Tryz.f162 rfl rfl (by simp [Tryz.f162]) ?_; dsimp only [codeL, Tryz.f162, scL, sopsL, guardL, dstAt, loopKey])
  (repeat (first
    | (apply is_ok; (case hw => simp); (case he => simp; exact is_rfl))
    | (apply op_no; (case hw => simp))
    | refine op_nil ?_ | refine next_normal ?_ | refine go_seq ?_ | refine go_region ?_ | refine go_skip ?_ | refine go_block ?_ | refine inb_normal ?_
    | (apply go_yes; (case hc => simp)) | (apply go_no; (case hc => simp))
    | refine go_exit ?_ | refine next_exit ?_ | refine inb_here ?_ | refine inb_past (by decide) ?_ | refine go_ret ?_ | refine next_ret ?_ | refine inb_ret ?_))
  refine go_count B.length (fun i => [(1, .int .i64 k), (2, .ptr 0 1 0 0), (5, .int .i64 i)]) (fun _ => [.box (drv S B)]) (fun i => ∀ j (hj : j < B.length), j < i → B[j] ≠ k) (by simp) (by simp) fun i hi hI => ?_
  by_cases hlt : i < B.length
  · have hw : IntKind.i64.wrap ((i : Int) + 1) = (i : Int) + 1 := wrap_id (by omega) (by omega)
    by_cases h3 : B[i] = k
    · (repeat (first
    | (apply is_ok; (case hw => simp [hlt, h3]); (case he => simp [hlt, h3]; exact is_rfl))
    | (apply op_no; (case hw => simp [hlt, h3]))
    | refine op_nil ?_ | refine next_normal ?_ | refine go_seq ?_ | refine go_region ?_ | refine go_skip ?_ | refine go_block ?_ | refine inb_normal ?_
    | (apply go_yes; (case hc => simp [hlt, h3])) | (apply go_no; (case hc => simp [hlt, h3]))
    | refine go_exit ?_ | refine next_exit ?_ | refine inb_here ?_ | refine inb_past (by decide) ?_ | refine go_ret ?_ | refine next_ret ?_ | refine inb_ret ?_))
      (apply ends_ok; (case h1 => simp; exact is_rfl); (case h2 => simp; exact is_rfl))
      have : k ∈ B := h3 ▸ List.getElem_mem hlt
      simp [this]
    · (repeat (first
    | (apply is_ok; (case hw => simp [hlt, h3]); (case he => simp [hlt, h3]; exact is_rfl))
    | (apply op_no; (case hw => simp [hlt, h3]))
    | refine op_nil ?_ | refine next_normal ?_ | refine go_seq ?_ | refine go_region ?_ | refine go_skip ?_ | refine go_block ?_ | refine inb_normal ?_
    | (apply go_yes; (case hc => simp [hlt, h3])) | (apply go_no; (case hc => simp [hlt, h3]))
    | refine go_exit ?_ | refine next_exit ?_ | refine inb_here ?_ | refine inb_past (by decide) ?_ | refine go_ret ?_ | refine next_ret ?_ | refine inb_ret ?_))
      exact ⟨hlt, by simp [hw], fun j hj hji => by
        by_cases hje : j = i
        · subst hje; exact h3
        · exact hI j hj (by omega)⟩
  · (repeat (first
    | (apply is_ok; (case hw => simp [hlt]); (case he => simp [hlt]; exact is_rfl))
    | (apply op_no; (case hw => simp [hlt]))
    | refine op_nil ?_ | refine next_normal ?_ | refine go_seq ?_ | refine go_region ?_ | refine go_skip ?_ | refine go_block ?_ | refine inb_normal ?_
    | (apply go_yes; (case hc => simp [hlt])) | (apply go_no; (case hc => simp [hlt]))
    | refine go_exit ?_ | refine next_exit ?_ | refine inb_here ?_ | refine inb_past (by decide) ?_ | refine go_ret ?_ | refine next_ret ?_ | refine inb_ret ?_))
    (apply ends_ok; (case h1 => simp; exact is_rfl); (case h2 => simp; exact is_rfl))
    have : k ∉ B := fun h => by
      obtain ⟨j, hj, h⟩ := List.getElem_of_mem h
      exact hI j hj (by omega) h
    simp [this]

theorem RightR_eq (S : List (List UInt8)) (B : List Int) (hB : B.length ≤ maxLen) : bodyW DC 136 [drv S B] [] = some (.bool (decide (RightP S B)), []) := by
  unfold maxLen at hB
  (refine gives_iff ?_; refine go_func Tryz.f136 rfl rfl (by simp [Tryz.f136]) ?_; dsimp only [codeL, Tryz.f136, scL, sopsL, guardL, dstAt, loopKey])
  by_cases h1 : 1 ≤ S.length
  case neg =>
    have e1 : ((S.length : Int) < 1) := by omega
    (repeat (first
    | (apply is_ok; (case hw => simp [e1]); (case he => simp [e1]; exact is_rfl))
    | (apply op_no; (case hw => simp [e1]))
    | refine op_nil ?_ | refine next_normal ?_ | refine go_seq ?_ | refine go_region ?_ | refine go_skip ?_ | refine go_block ?_ | refine inb_normal ?_
    | (apply go_yes; (case hc => simp [e1])) | (apply go_no; (case hc => simp [e1]))
    | refine go_exit ?_ | refine next_exit ?_ | refine inb_here ?_ | refine inb_past (by decide) ?_ | refine go_ret ?_ | refine next_ret ?_ | refine inb_ret ?_))
    (apply ends_ok; (case h1 => simp; exact is_rfl); (case h2 => simp; exact is_rfl))
    have : ¬ RightP S B := fun h => h1 h.1
    simp [this]
  have e1 : ¬ ((S.length : Int) < 1) := by omega
  by_cases h2 : S.length ≤ 256
  case neg =>
    have e2 : ((256 : Int) < S.length) := by omega
    (repeat (first
    | (apply is_ok; (case hw => simp [e1, e2]); (case he => simp [e1, e2]; exact is_rfl))
    | (apply op_no; (case hw => simp [e1, e2]))
    | refine op_nil ?_ | refine next_normal ?_ | refine go_seq ?_ | refine go_region ?_ | refine go_skip ?_ | refine go_block ?_ | refine inb_normal ?_
    | (apply go_yes; (case hc => simp [e1, e2])) | (apply go_no; (case hc => simp [e1, e2]))
    | refine go_exit ?_ | refine next_exit ?_ | refine inb_here ?_ | refine inb_past (by decide) ?_ | refine go_ret ?_ | refine next_ret ?_ | refine inb_ret ?_))
    (apply ends_ok; (case h1 => simp; exact is_rfl); (case h2 => simp; exact is_rfl))
    have : ¬ RightP S B := fun h => h2 h.2.1
    simp [this]
  have e2 : ¬ ((256 : Int) < S.length) := by omega
  (repeat (first
    | (apply is_ok; (case hw => simp [e1, e2]); (case he => simp [e1, e2]; exact is_rfl))
    | (apply op_no; (case hw => simp [e1, e2]))
    | refine op_nil ?_ | refine next_normal ?_ | refine go_seq ?_ | refine go_region ?_ | refine go_skip ?_ | refine go_block ?_ | refine inb_normal ?_
    | (apply go_yes; (case hc => simp [e1, e2])) | (apply go_no; (case hc => simp [e1, e2]))
    | refine go_exit ?_ | refine next_exit ?_ | refine inb_here ?_ | refine inb_past (by decide) ?_ | refine go_ret ?_ | refine next_ret ?_ | refine inb_ret ?_))
  refine go_count S.length (fun i => [(1, .ptr 0 1 0 0), (3, .int .i64 i)]) (fun _ => [.box (drv S B)]) (fun i => ∀ j (hj : j < S.length), j < i → S[j].length = 128) (by simp) (by simp) fun i hi hI => ?_
  have hw : IntKind.i64.wrap ((i : Int) + 1) = (i : Int) + 1 := wrap_id (by omega) (by omega)
  by_cases hlt : i < S.length
  · by_cases h3 : S[i].length = 128
    · have e3 : ((S[i].length : Int) = 128) := by omega
      (repeat (first
    | (apply is_ok; (case hw => simp [hlt, h3, e3]); (case he => simp [hlt, h3, e3]; exact is_rfl))
    | (apply op_no; (case hw => simp [hlt, h3, e3]))
    | refine op_nil ?_ | refine next_normal ?_ | refine go_seq ?_ | refine go_region ?_ | refine go_skip ?_ | refine go_block ?_ | refine inb_normal ?_
    | (apply go_yes; (case hc => simp [hlt, h3, e3])) | (apply go_no; (case hc => simp [hlt, h3, e3]))
    | refine go_exit ?_ | refine next_exit ?_ | refine inb_here ?_ | refine inb_past (by decide) ?_ | refine go_ret ?_ | refine next_ret ?_ | refine inb_ret ?_))
      exact ⟨hlt, by simp [hw], fun j hj hji => by
        by_cases hje : j = i
        · subst hje; exact h3
        · exact hI j hj (by omega)⟩
    · have e3 : ¬ ((S[i].length : Int) = 128) := by omega
      (repeat (first
    | (apply is_ok; (case hw => simp [hlt, h3, e3]); (case he => simp [hlt, h3, e3]; exact is_rfl))
    | (apply op_no; (case hw => simp [hlt, h3, e3]))
    | refine op_nil ?_ | refine next_normal ?_ | refine go_seq ?_ | refine go_region ?_ | refine go_skip ?_ | refine go_block ?_ | refine inb_normal ?_
    | (apply go_yes; (case hc => simp [hlt, h3, e3])) | (apply go_no; (case hc => simp [hlt, h3, e3]))
    | refine go_exit ?_ | refine next_exit ?_ | refine inb_here ?_ | refine inb_past (by decide) ?_ | refine go_ret ?_ | refine next_ret ?_ | refine inb_ret ?_))
      (apply ends_ok; (case h1 => simp; exact is_rfl); (case h2 => simp; exact is_rfl))
      have : ¬ RightP S B := fun h => h3 (h.2.2.1 _ (List.getElem_mem hlt))
      simp [this]
  clear hw
  (repeat (first
    | (apply is_ok; (case hw => simp [hlt]); (case he => simp [hlt]; exact is_rfl))
    | (apply op_no; (case hw => simp [hlt]))
    | refine op_nil ?_ | refine next_normal ?_ | refine go_seq ?_ | refine go_region ?_ | refine go_skip ?_ | refine go_block ?_ | refine inb_normal ?_
    | (apply go_yes; (case hc => simp [hlt])) | (apply go_no; (case hc => simp [hlt]))
    | refine go_exit ?_ | refine next_exit ?_ | refine inb_here ?_ | refine inb_past (by decide) ?_ | refine go_ret ?_ | refine next_ret ?_ | refine inb_ret ?_))
  have hS : ∀ s ∈ S, s.length = 128 := fun s hs => by
    obtain ⟨j, hj, rfl⟩ := List.getElem_of_mem hs
    exact hI j hj (by omega)
  clear hlt hI hi
  refine go_count B.length (fun i => [(1, .ptr 0 1 0 0), (4, .int .i64 i)]) (fun _ => [.box (drv S B)]) (fun i => ∀ j (hj : j < B.length), j < i → 0 ≤ B[j] ∧ B[j] < S.length ∧ (1 ≤ j → B.getD (j - 1) 0 < B[j])) (by simp) (by simp) fun k hk hI => ?_
  by_cases hlt : k < B.length
  · have hw : IntKind.i64.wrap ((k : Int) + 1) = (k : Int) + 1 := wrap_id (by omega) (by omega)
    by_cases h3 : 0 ≤ B[k]
    case neg =>
      have e3 : B[k] < 0 := by omega
      (repeat (first
    | (apply is_ok; (case hw => simp [hlt, h3, e3]); (case he => simp [hlt, h3, e3]; exact is_rfl))
    | (apply op_no; (case hw => simp [hlt, h3, e3]))
    | refine op_nil ?_ | refine next_normal ?_ | refine go_seq ?_ | refine go_region ?_ | refine go_skip ?_ | refine go_block ?_ | refine inb_normal ?_
    | (apply go_yes; (case hc => simp [hlt, h3, e3])) | (apply go_no; (case hc => simp [hlt, h3, e3]))
    | refine go_exit ?_ | refine next_exit ?_ | refine inb_here ?_ | refine inb_past (by decide) ?_ | refine go_ret ?_ | refine next_ret ?_ | refine inb_ret ?_))
      (apply ends_ok; (case h1 => simp; exact is_rfl); (case h2 => simp; exact is_rfl))
      have : ¬ RightP S B := fun h => h3 (h.2.2.2.1 _ (List.getElem_mem hlt)).1
      simp [this]
    have e3 : ¬ (B[k] < 0) := by omega
    by_cases h4 : B[k] < S.length
    case neg =>
      have e4 : (S.length : Int) ≤ B[k] := by omega
      (repeat (first
    | (apply is_ok; (case hw => simp [hlt, h3, e3, h4, e4]); (case he => simp [hlt, h3, e3, h4, e4]; exact is_rfl))
    | (apply op_no; (case hw => simp [hlt, h3, e3, h4, e4]))
    | refine op_nil ?_ | refine next_normal ?_ | refine go_seq ?_ | refine go_region ?_ | refine go_skip ?_ | refine go_block ?_ | refine inb_normal ?_
    | (apply go_yes; (case hc => simp [hlt, h3, e3, h4, e4])) | (apply go_no; (case hc => simp [hlt, h3, e3, h4, e4]))
    | refine go_exit ?_ | refine next_exit ?_ | refine inb_here ?_ | refine inb_past (by decide) ?_ | refine go_ret ?_ | refine next_ret ?_ | refine inb_ret ?_))
      (apply ends_ok; (case h1 => simp; exact is_rfl); (case h2 => simp; exact is_rfl))
      have : ¬ RightP S B := fun h => h4 (h.2.2.2.1 _ (List.getElem_mem hlt)).2
      simp [this]
    have e4 : ¬ ((S.length : Int) ≤ B[k]) := by omega
    by_cases h5 : 0 < k
    · have hlt' : k - 1 < B.length := by omega
      have hw1 : IntKind.i64.wrap ((k : Int) - 1) = ((k - 1 : Nat) : Int) := by rw [wrap_id (by omega) (by omega)]; omega
      by_cases h6 : B[k - 1] < B[k]
      · have e6 : ¬ (B[k] ≤ B[k - 1]) := by omega
        (repeat (first
    | (apply is_ok; (case hw => simp [hlt, h3, e3, h4, e4, h5, hlt', hw1, h6, e6]); (case he => simp [hlt, h3, e3, h4, e4, h5, hlt', hw1, h6, e6]; exact is_rfl))
    | (apply op_no; (case hw => simp [hlt, h3, e3, h4, e4, h5, hlt', hw1, h6, e6]))
    | refine op_nil ?_ | refine next_normal ?_ | refine go_seq ?_ | refine go_region ?_ | refine go_skip ?_ | refine go_block ?_ | refine inb_normal ?_
    | (apply go_yes; (case hc => simp [hlt, h3, e3, h4, e4, h5, hlt', hw1, h6, e6])) | (apply go_no; (case hc => simp [hlt, h3, e3, h4, e4, h5, hlt', hw1, h6, e6]))
    | refine go_exit ?_ | refine next_exit ?_ | refine inb_here ?_ | refine inb_past (by decide) ?_ | refine go_ret ?_ | refine next_ret ?_ | refine inb_ret ?_))
        exact ⟨hlt, by simp [hw], fun j hj hji => by
          by_cases hje : j = k
          · subst hje; exact ⟨h3, h4, fun _ => by simpa [hlt'] using h6⟩
          · exact hI j hj (by omega)⟩
      · have e6 : (B[k] ≤ B[k - 1]) := by omega
        (repeat (first
    | (apply is_ok; (case hw => simp [hlt, h3, e3, h4, e4, h5, hlt', hw1, h6, e6]); (case he => simp [hlt, h3, e3, h4, e4, h5, hlt', hw1, h6, e6]; exact is_rfl))
    | (apply op_no; (case hw => simp [hlt, h3, e3, h4, e4, h5, hlt', hw1, h6, e6]))
    | refine op_nil ?_ | refine next_normal ?_ | refine go_seq ?_ | refine go_region ?_ | refine go_skip ?_ | refine go_block ?_ | refine inb_normal ?_
    | (apply go_yes; (case hc => simp [hlt, h3, e3, h4, e4, h5, hlt', hw1, h6, e6])) | (apply go_no; (case hc => simp [hlt, h3, e3, h4, e4, h5, hlt', hw1, h6, e6]))
    | refine go_exit ?_ | refine next_exit ?_ | refine inb_here ?_ | refine inb_past (by decide) ?_ | refine go_ret ?_ | refine next_ret ?_ | refine inb_ret ?_))
        (apply ends_ok; (case h1 => simp; exact is_rfl); (case h2 => simp; exact is_rfl))
        have : ¬ RightP S B := fun h => by
          have := h.2.2.2.2 k (List.mem_range.2 hlt) h5
          simp [hlt, hlt'] at this
          omega
        simp [this]
    · (repeat (first
    | (apply is_ok; (case hw => simp [hlt, h3, e3, h4, e4, h5]); (case he => simp [hlt, h3, e3, h4, e4, h5]; exact is_rfl))
    | (apply op_no; (case hw => simp [hlt, h3, e3, h4, e4, h5]))
    | refine op_nil ?_ | refine next_normal ?_ | refine go_seq ?_ | refine go_region ?_ | refine go_skip ?_ | refine go_block ?_ | refine inb_normal ?_
    | (apply go_yes; (case hc => simp [hlt, h3, e3, h4, e4, h5])) | (apply go_no; (case hc => simp [hlt, h3, e3, h4, e4, h5]))
    | refine go_exit ?_ | refine next_exit ?_ | refine inb_here ?_ | refine inb_past (by decide) ?_ | refine go_ret ?_ | refine next_ret ?_ | refine inb_ret ?_))
      exact ⟨hlt, by simp [hw], fun j hj hji => by
        by_cases hje : j = k
        · subst hje; exact ⟨h3, h4, fun _ => by omega⟩
        · exact hI j hj (by omega)⟩
  · (repeat (first
    | (apply is_ok; (case hw => simp [hlt]); (case he => simp [hlt]; exact is_rfl))
    | (apply op_no; (case hw => simp [hlt]))
    | refine op_nil ?_ | refine next_normal ?_ | refine go_seq ?_ | refine go_region ?_ | refine go_skip ?_ | refine go_block ?_ | refine inb_normal ?_
    | (apply go_yes; (case hc => simp [hlt])) | (apply go_no; (case hc => simp [hlt]))
    | refine go_exit ?_ | refine next_exit ?_ | refine inb_here ?_ | refine inb_past (by decide) ?_ | refine go_ret ?_ | refine next_ret ?_ | refine inb_ret ?_))
    (apply ends_ok; (case h1 => simp; exact is_rfl); (case h2 => simp; exact is_rfl))
    have : RightP S B := ⟨h1, h2, hS, fun b hb => by
      obtain ⟨j, hj, rfl⟩ := List.getElem_of_mem hb
      exact ⟨(hI j hj (by omega)).1, (hI j hj (by omega)).2.1⟩, fun j hj h => by
      have hj' := List.mem_range.1 hj
      have := (hI j hj' (by omega)).2.2 h
      simpa [hj'] using this⟩
    simp [this]
end Go.Abs

namespace Go.Abs
open Go.Proofs
set_option maxRecDepth 100000
set_option linter.unusedSimpArgs false

theorem Right_eq (S : List (List UInt8)) (B : List Int) (hB : B.length ≤ maxLen) : bodyW DC 171 [drv S B] [] = some (.bool (decide (RightP S B)), []) := by
  unfold maxLen at hB
  (refine gives_iff ?_; refine go_func Tryz.f171 rfl rfl (by simp [Tryz.f171]) ?_; dsimp only [codeL, Tryz.f171, scL, sopsL, guardL, dstAt, loopKey])
  by_cases h1 : 1 ≤ S.length
  case neg =>
    have e1 : ((S.length : Int) < 1) := by omega
    (repeat (first
    | (apply is_ok; (case hw => simp [e1]); (case he => simp [e1]; exact is_rfl))
    | (apply op_no; (case hw => simp [e1]))
    | refine op_nil ?_ | refine next_normal ?_ | refine go_seq ?_ | refine go_region ?_ | refine go_skip ?_ | refine go_block ?_ | refine inb_normal ?_
    | (apply go_yes; (case hc => simp [e1])) | (apply go_no; (case hc => simp [e1]))
    | refine go_exit ?_ | refine next_exit ?_ | refine inb_here ?_ | refine inb_past (by decide) ?_ | refine go_ret ?_ | refine next_ret ?_ | refine inb_ret ?_))
    (apply ends_ok; (case h1 => simp; exact is_rfl); (case h2 => simp; exact is_rfl))
    have : ¬ RightP S B := fun h => h1 h.1
    simp [this]
  have e1 : ¬ ((S.length : Int) < 1) := by omega
  by_cases h2 : S.length ≤ 256
  case neg =>
    have e2 : ((256 : Int) < S.length) := by omega
    (repeat (first
    | (apply is_ok; (case hw => simp [e1, e2]); (case he => simp [e1, e2]; exact is_rfl))
    | (apply op_no; (case hw => simp [e1, e2]))
    | refine op_nil ?_ | refine next_normal ?_ | refine go_seq ?_ | refine go_region ?_ | refine go_skip ?_ | refine go_block ?_ | refine inb_normal ?_
    | (apply go_yes; (case hc => simp [e1, e2])) | (apply go_no; (case hc => simp [e1, e2]))
    | refine go_exit ?_ | refine next_exit ?_ | refine inb_here ?_ | refine inb_past (by decide) ?_ | refine go_ret ?_ | refine next_ret ?_ | refine inb_ret ?_))
    (apply ends_ok; (case h1 => simp; exact is_rfl); (case h2 => simp; exact is_rfl))
    have : ¬ RightP S B := fun h => h2 h.2.1
    simp [this]
  have e2 : ¬ ((256 : Int) < S.length) := by omega
  (repeat (first
    | (apply is_ok; (case hw => simp [e1, e2]); (case he => simp [e1, e2]; exact is_rfl))
    | (apply op_no; (case hw => simp [e1, e2]))
    | refine op_nil ?_ | refine next_normal ?_ | refine go_seq ?_ | refine go_region ?_ | refine go_skip ?_ | refine go_block ?_ | refine inb_normal ?_
    | (apply go_yes; (case hc => simp [e1, e2])) | (apply go_no; (case hc => simp [e1, e2]))
    | refine go_exit ?_ | refine next_exit ?_ | refine inb_here ?_ | refine inb_past (by decide) ?_ | refine go_ret ?_ | refine next_ret ?_ | refine inb_ret ?_))
  refine go_count S.length (fun i => [(1, .ptr 0 1 0 0), (19, .sl (strs S)), (20, .int .i64 S.length), (21, .int .i64 i)]) (fun _ => [.box (drv S B)]) (fun i => ∀ j (hj : j < S.length), j < i → S[j].length = 128) (by simp) (by simp) fun i hi hI => ?_
  have hw : IntKind.i64.wrap ((i : Int) + 1) = (i : Int) + 1 := wrap_id (by omega) (by omega)
  by_cases hlt : i < S.length
  · by_cases h3 : S[i].length = 128
    · have e3 : ((S[i].length : Int) = 128) := by omega
      (repeat (first
    | (apply is_ok; (case hw => simp [hlt, h3, e3]); (case he => simp [hlt, h3, e3]; exact is_rfl))
    | (apply op_no; (case hw => simp [hlt, h3, e3]))
    | refine op_nil ?_ | refine next_normal ?_ | refine go_seq ?_ | refine go_region ?_ | refine go_skip ?_ | refine go_block ?_ | refine inb_normal ?_
    | (apply go_yes; (case hc => simp [hlt, h3, e3])) | (apply go_no; (case hc => simp [hlt, h3, e3]))
    | refine go_exit ?_ | refine next_exit ?_ | refine inb_here ?_ | refine inb_past (by decide) ?_ | refine go_ret ?_ | refine next_ret ?_ | refine inb_ret ?_))
      exact ⟨hlt, by simp [hw], fun j hj hji => by
        by_cases hje : j = i
        · subst hje; exact h3
        · exact hI j hj (by omega)⟩
    · have e3 : ¬ ((S[i].length : Int) = 128) := by omega
      (repeat (first
    | (apply is_ok; (case hw => simp [hlt, h3, e3]); (case he => simp [hlt, h3, e3]; exact is_rfl))
    | (apply op_no; (case hw => simp [hlt, h3, e3]))
    | refine op_nil ?_ | refine next_normal ?_ | refine go_seq ?_ | refine go_region ?_ | refine go_skip ?_ | refine go_block ?_ | refine inb_normal ?_
    | (apply go_yes; (case hc => simp [hlt, h3, e3])) | (apply go_no; (case hc => simp [hlt, h3, e3]))
    | refine go_exit ?_ | refine next_exit ?_ | refine inb_here ?_ | refine inb_past (by decide) ?_ | refine go_ret ?_ | refine next_ret ?_ | refine inb_ret ?_))
      (apply ends_ok; (case h1 => simp; exact is_rfl); (case h2 => simp; exact is_rfl))
      have : ¬ RightP S B := fun h => h3 (h.2.2.1 _ (List.getElem_mem hlt))
      simp [this]
  clear hw
  (repeat (first
    | (apply is_ok; (case hw => simp [hlt]); (case he => simp [hlt]; exact is_rfl))
    | (apply op_no; (case hw => simp [hlt]))
    | refine op_nil ?_ | refine next_normal ?_ | refine go_seq ?_ | refine go_region ?_ | refine go_skip ?_ | refine go_block ?_ | refine inb_normal ?_
    | (apply go_yes; (case hc => simp [hlt])) | (apply go_no; (case hc => simp [hlt]))
    | refine go_exit ?_ | refine next_exit ?_ | refine inb_here ?_ | refine inb_past (by decide) ?_ | refine go_ret ?_ | refine next_ret ?_ | refine inb_ret ?_))
  have hS : ∀ s ∈ S, s.length = 128 := fun s hs => by
    obtain ⟨j, hj, rfl⟩ := List.getElem_of_mem hs
    exact hI j hj (by omega)
  clear hlt hI hi
  refine go_count B.length (fun k => [(1, .ptr 0 1 0 0), (5, .int .i64 (if k = 0 then -1 else B.getD (k - 1) 0)), (30, .sl (ints B)), (31, .int .i64 B.length), (32, .int .i64 k)]) (fun _ => [.box (drv S B)])
    (fun k => ∀ j (hj : j < B.length), j < k → 0 ≤ B[j] ∧ B[j] < S.length ∧ (1 ≤ j → B.getD (j - 1) 0 < B[j])) (by simp) (by simp) fun k hk hI => ?_
  by_cases hlt : k < B.length
  · have hw : IntKind.i64.wrap ((k : Int) + 1) = (k : Int) + 1 := wrap_id (by omega) (by omega)
    have hl : (if k = 0 then (-1 : Int) else B.getD (k - 1) 0) ≥ -1 := by
      split
      · omega
      · have hlt' : k - 1 < B.length := by omega
        have := (hI (k - 1) hlt' (by omega)).1
        simp [hlt']; omega
    generalize hL : (if k = 0 then (-1 : Int) else B.getD (k - 1) 0) = L at hl
    by_cases h3 : B[k] ≤ L
    case pos =>
      (repeat (first
    | (apply is_ok; (case hw => simp [hlt, h3]); (case he => simp [hlt, h3]; exact is_rfl))
    | (apply op_no; (case hw => simp [hlt, h3]))
    | refine op_nil ?_ | refine next_normal ?_ | refine go_seq ?_ | refine go_region ?_ | refine go_skip ?_ | refine go_block ?_ | refine inb_normal ?_
    | (apply go_yes; (case hc => simp [hlt, h3])) | (apply go_no; (case hc => simp [hlt, h3]))
    | refine go_exit ?_ | refine next_exit ?_ | refine inb_here ?_ | refine inb_past (by decide) ?_ | refine go_ret ?_ | refine next_ret ?_ | refine inb_ret ?_))
      (apply ends_ok; (case h1 => simp; exact is_rfl); (case h2 => simp; exact is_rfl))
      have : ¬ RightP S B := fun h => by
        have h0 := (h.2.2.2.1 _ (List.getElem_mem hlt)).1
        by_cases hk0 : k = 0
        · rw [if_pos hk0] at hL; omega
        · rw [if_neg hk0] at hL
          have := h.2.2.2.2 k (List.mem_range.2 hlt) (by omega)
          have e : B.getD k 0 = B[k] := by simp [hlt]
          omega
      simp [this]
    by_cases h4 : B[k] < S.length
    case neg =>
      have e4 : (S.length : Int) ≤ B[k] := by omega
      (repeat (first
    | (apply is_ok; (case hw => simp [hlt, h3, h4, e4]); (case he => simp [hlt, h3, h4, e4]; exact is_rfl))
    | (apply op_no; (case hw => simp [hlt, h3, h4, e4]))
    | refine op_nil ?_ | refine next_normal ?_ | refine go_seq ?_ | refine go_region ?_ | refine go_skip ?_ | refine go_block ?_ | refine inb_normal ?_
    | (apply go_yes; (case hc => simp [hlt, h3, h4, e4])) | (apply go_no; (case hc => simp [hlt, h3, h4, e4]))
    | refine go_exit ?_ | refine next_exit ?_ | refine inb_here ?_ | refine inb_past (by decide) ?_ | refine go_ret ?_ | refine next_ret ?_ | refine inb_ret ?_))
      (apply ends_ok; (case h1 => simp; exact is_rfl); (case h2 => simp; exact is_rfl))
      have : ¬ RightP S B := fun h => h4 (h.2.2.2.1 _ (List.getElem_mem hlt)).2
      simp [this]
    have e4 : ¬ ((S.length : Int) ≤ B[k]) := by omega
    (repeat (first
    | (apply is_ok; (case hw => simp [hlt, h3, h4, e4]); (case he => simp [hlt, h3, h4, e4]; exact is_rfl))
    | (apply op_no; (case hw => simp [hlt, h3, h4, e4]))
    | refine op_nil ?_ | refine next_normal ?_ | refine go_seq ?_ | refine go_region ?_ | refine go_skip ?_ | refine go_block ?_ | refine inb_normal ?_
    | (apply go_yes; (case hc => simp [hlt, h3, h4, e4])) | (apply go_no; (case hc => simp [hlt, h3, h4, e4]))
    | refine go_exit ?_ | refine next_exit ?_ | refine inb_here ?_ | refine inb_past (by decide) ?_ | refine go_ret ?_ | refine next_ret ?_ | refine inb_ret ?_))
    exact ⟨hlt, by simp [hw, hlt], fun j hj hji => by
      by_cases hje : j = k
      · subst hje
        refine ⟨by omega, h4, fun h => ?_⟩
        rw [if_neg (by omega)] at hL
        omega
      · exact hI j hj (by omega)⟩
  · (repeat (first
    | (apply is_ok; (case hw => simp [hlt]); (case he => simp [hlt]; exact is_rfl))
    | (apply op_no; (case hw => simp [hlt]))
    | refine op_nil ?_ | refine next_normal ?_ | refine go_seq ?_ | refine go_region ?_ | refine go_skip ?_ | refine go_block ?_ | refine inb_normal ?_
    | (apply go_yes; (case hc => simp [hlt])) | (apply go_no; (case hc => simp [hlt]))
    | refine go_exit ?_ | refine next_exit ?_ | refine inb_here ?_ | refine inb_past (by decide) ?_ | refine go_ret ?_ | refine next_ret ?_ | refine inb_ret ?_))
    (apply ends_ok; (case h1 => simp; exact is_rfl); (case h2 => simp; exact is_rfl))
    have : RightP S B := ⟨h1, h2, hS, fun b hb => by
      obtain ⟨j, hj, rfl⟩ := List.getElem_of_mem hb
      exact ⟨(hI j hj (by omega)).1, (hI j hj (by omega)).2.1⟩, fun j hj h => by
      have hj' := List.mem_range.1 hj
      have := (hI j hj' (by omega)).2.2 h
      simpa [hj'] using this⟩
    simp [this]

end Go.Abs

namespace Go.Abs
open Go.Proofs
set_option maxRecDepth 100000
set_option linter.unusedSimpArgs false
set_option linter.unusedVariables false

theorem map_of {α : Type} {es : List V} {f : α → V} {p : α → Prop} (h : ∀ x ∈ es, ∃ a, x = f a ∧ p a) : ∃ l : List α, es = l.map f ∧ ∀ a ∈ l, p a := by
  induction es with
  | nil => exact ⟨[], rfl, by simp⟩
  | cons x es ih =>
    obtain ⟨l, rfl, h2⟩ := ih fun y hy => h y (List.mem_cons_of_mem _ hy)
    obtain ⟨a, rfl, h3⟩ := h x (List.mem_cons_self ..)
    exact ⟨a :: l, rfl, fun b hb => by
      rcases List.mem_cons.1 hb with rfl | hb
      · exact h3
      · exact h2 b hb⟩

theorem cells_one {x : V} (h : x.isAgg = false) : x.cells = [x] := by cases x <;> first | rfl | cases h
theorem cells_some {x : V} (h : x.isAgg = true) : ∃ cs, x = .agg cs := by cases x <;> first | exact ⟨_, rfl⟩ | cases h

section
variable {P : Program} {n : Nat} {t e : TypeId} {x : V}
theorem hasT_pos {xs : List V} (h : HasT P n t xs) : ∃ m, n = m + 1 := by
  cases n with
  | zero => exact h.elim
  | succ m => exact ⟨m, rfl⟩
theorem hasT_int {k : IntKind} (hu : P.underlying t = some (.int k)) {xs : List V} (h : HasT P n t xs) : ∃ m, xs = [.int k m] ∧ (Lit.int k m).wf = true := by
  obtain ⟨m, rfl⟩ := hasT_pos h
  simpa only [HasT, hu] using h
theorem hasT_str (hu : P.underlying t = some .string) {xs : List V} (h : HasT P n t xs) : ∃ s : List UInt8, xs = [.str s] ∧ s.length ≤ maxLen := by
  obtain ⟨m, rfl⟩ := hasT_pos h
  simpa only [HasT, hu] using h
theorem hasT_slice (hu : P.underlying t = some (.slice e)) (hc : P.cellsOf e ≠ 0) {xs : List V} (h : HasT P n t xs) : ∃ m es, n = m + 1 ∧ xs = [.sl es] ∧ es.length ≤ maxLen ∧ ∀ x ∈ es, aggT P e = some x.isAgg ∧ HasT P m e x.cells := by
  obtain ⟨m, rfl⟩ := hasT_pos h
  simp only [HasT, hu, if_neg hc] at h
  obtain ⟨es, h1, h2, h3⟩ := h
  exact ⟨m, es, rfl, h1, h2, h3⟩
theorem hasT_strs (hu : P.underlying t = some (.slice e)) (hc : P.cellsOf e ≠ 0) (he : P.underlying e = some .string) {xs : List V} (h : HasT P n t xs) : ∃ S : List (List UInt8), xs = [.sl (S.map V.str)] ∧ S.length ≤ maxLen ∧ ∀ s ∈ S, s.length ≤ maxLen := by
  obtain ⟨m, es, rfl, rfl, h1, h2⟩ := hasT_slice hu hc h
  have hag : aggT P e = some false := by simp [aggT, he]
  obtain ⟨S, rfl, h3⟩ := map_of (p := fun s => s.length ≤ maxLen) (f := V.str) fun x hx => by
    obtain ⟨h3, h4⟩ := h2 x hx
    rw [hag] at h3
    obtain ⟨s, h5, h6⟩ := hasT_str he h4
    rw [cells_one (Option.some.inj h3).symm] at h5
    cases h5
    exact ⟨s, rfl, h6⟩
  exact ⟨S, rfl, by simpa using h1, h3⟩
theorem hasT_ints {k : IntKind} (hu : P.underlying t = some (.slice e)) (hc : P.cellsOf e ≠ 0) (he : P.underlying e = some (.int k)) {xs : List V} (h : HasT P n t xs) : ∃ S : List Int, xs = [.sl (S.map (V.int k))] ∧ S.length ≤ maxLen ∧ ∀ s ∈ S, (Lit.int k s).wf = true := by
  obtain ⟨m, es, rfl, rfl, h1, h2⟩ := hasT_slice hu hc h
  have hag : aggT P e = some false := by simp [aggT, he]
  obtain ⟨S, rfl, h3⟩ := map_of (p := fun s => (Lit.int k s).wf = true) (f := V.int k) fun x hx => by
    obtain ⟨h3, h4⟩ := h2 x hx
    rw [hag] at h3
    obtain ⟨s, h5, h6⟩ := hasT_int he h4
    rw [cells_one (Option.some.inj h3).symm] at h5
    cases h5
    exact ⟨s, rfl, h6⟩
  exact ⟨S, rfl, by simpa using h1, h3⟩
theorem hasT_struct {fs : Array Field} (hu : P.underlying t = some (.struct fs)) {xs : List V} (h : HasT P n t xs) : ∃ m, n = m + 1 ∧ xs.length = P.cellsOf t ∧ ∀ (i : Nat) (f : Field), fs[i]? = some f → HasT P m f.type ((xs.drop f.offset).take (P.cellsOf f.type)) := by
  obtain ⟨m, rfl⟩ := hasT_pos h
  simp only [HasT, hu] at h
  exact ⟨m, rfl, h.1, fun i f hf => h.2 f (by simpa using Array.mem_of_getElem? hf)⟩
theorem wf_i64 {m : Int} (h : (Lit.int .i64 m).wf = true) : -9223372036854775808 ≤ m ∧ m ≤ 9223372036854775807 := by
  simpa [Lit.wf, IntKind.min, IntKind.max, IntKind.signed, IntKind.bits] using h
end

theorem cells_ne {P : Program} {e : TypeId} {n : Nat} (h : P.cellsOf e = n) (hn : n ≠ 0) : P.cellsOf e ≠ 0 := by rw [h]; exact hn

end Go.Abs

namespace Go.Abs
open Go.Proofs
set_option maxRecDepth 100000
set_option linter.unusedSimpArgs false
set_option linter.unusedVariables false

theorem drv_cells {n : Nat} {cs : List V} (h : HasT Tryz.prog n 25 cs) : ∃ S B, cs = [.sl (strs S), .sl (ints B)] ∧ S.length ≤ maxLen ∧ B.length ≤ maxLen := by
  obtain ⟨m, rfl, h1, h2⟩ := hasT_struct Tryz.underlying25 h
  have hl : cs.length = 2 := h1.trans (by kernel_rfl)
  match cs, hl with
  | [a, b], _ =>
    have f0 := h2 0 _ rfl
    have f1 := h2 1 _ rfl
    obtain ⟨S, e1, hS, _⟩ := hasT_strs Tryz.underlying22 (cells_ne (n := 1) (by kernel_rfl) (by decide)) Tryz.underlying9 f0
    obtain ⟨B, e2, hB, _⟩ := hasT_ints Tryz.underlying23 (cells_ne (n := 1) (by kernel_rfl) (by decide)) Tryz.underlying3 f1
    have e1' : [a] = [V.sl (strs S)] := e1
    have e2' : [b] = [V.sl (ints B)] := e2
    cases e1'
    cases e2'
    exact ⟨S, B, rfl, hS, hB⟩
theorem drv_of {x : V} (h : ArgT Tryz.prog 25 x) : ∃ S B, x = drv S B ∧ S.length ≤ maxLen ∧ B.length ≤ maxLen := by
  obtain ⟨n, h1, h2⟩ := h
  rw [show aggT Tryz.prog 25 = some true by kernel_rfl] at h2
  obtain ⟨cs, rfl⟩ := cells_some (Option.some.inj h2).symm
  obtain ⟨S, B, h3, h4⟩ := drv_cells h1
  cases h3
  exact ⟨S, B, rfl, h4⟩

end Go.Abs

namespace Go.Abs
open Go.Proofs
set_option maxRecDepth 100000
set_option linter.unusedSimpArgs false
set_option linter.unusedVariables false

@[simp] theorem sealL_ints (H : Heap) (k : IntKind) (L : List Int) : sealL H (L.map (V.int k)) = some (L.map (V.int k), []) := by
  induction L with
  | nil => rfl
  | cons a L ih => simp [ih]
@[simp] theorem sealL_strs (H : Heap) (L : List (List UInt8)) : sealL H (L.map V.str) = some (L.map V.str, []) := by
  induction L with
  | nil => rfl
  | cons a L ih => simp [ih]

section
variable {P : Program}
@[simp] theorem binV_ii (op : BinOp) (t : TypeId) (k k' : IntKind) (a b : Int) : binV P op t (.int k a) (.int k' b) = if isShift op then shiftOp op k a b else if k = k' then intOp op k a b else none := rfl
@[simp] theorem binV_ss (op : BinOp) (t : TypeId) (a b : List UInt8) : binV P op t (.str a) (.str b) = strOp op a b := rfl
@[simp] theorem binV_bb (op : BinOp) (t : TypeId) (a b : Bool) : binV P op t (.bool a) (.bool b) = if P.underlying t matches some .bool then match op with
    | .eql => some (.bool (a == b))
    | .neq => some (.bool (!(a == b)))
    | _ => none
    else none := rfl
end

/-- The value of an encoding, its cells told. -/
theorem parseV_shape (s : List UInt8) : ∃ k l z a b c d e f g h, parseV s = .agg [.int .i64 k, .int .i64 l, .int .i64 z, .int .i64 a, .int .i64 b, .int .i64 c, .int .i64 d, .int .i64 e, .int .i64 f, .int .i64 g, .int .i64 h] ∧ In64 [k, l, z, a, b, c, d, e, f, g, h] := by
  unfold parseV
  split
  · exact ⟨_, _, _, _, _, _, _, _, _, _, _, rfl, in64_wd s⟩
  · exact ⟨0, 0, 0, 0, 0, 0, 0, 0, 0, 0, 0, rfl, by intro x hx; simp at hx; omega⟩
end Go.Abs

namespace Go.Abs
open Go.Proofs
set_option maxRecDepth 100000
set_option linter.unusedSimpArgs false

def wornK (B : List Int) : List Int := B.foldl (fun ks n => if n ∈ ks then ks else ks ++ [n]) []
theorem wornK_take {B : List Int} {i : Nat} (h : i < B.length) : wornK (B.take (i + 1)) = if B[i] ∈ wornK (B.take i) then wornK (B.take i) else wornK (B.take i) ++ [B[i]] := by
  unfold wornK
  rw [List.take_succ_eq_append_getElem h, List.foldl_append]
  rfl
theorem foldl_mem (k : Int) : ∀ (B ks : List Int), k ∈ B.foldl (fun ks n => if n ∈ ks then ks else ks ++ [n]) ks ↔ k ∈ ks ∨ k ∈ B
  | [], ks => by simp
  | b :: B, ks => by
    rw [List.foldl_cons, foldl_mem k B]
    by_cases h : b ∈ ks
    · rw [if_pos h]
      constructor
      · rintro (h1 | h1)
        · exact .inl h1
        · exact .inr (List.mem_cons_of_mem _ h1)
      · rintro (h1 | h1)
        · exact .inl h1
        · rcases List.mem_cons.1 h1 with rfl | h1
          · exact .inl h
          · exact .inr h1
    · rw [if_neg h]; simp [or_assoc]
theorem mem_worn {k : Int} {B : List Int} : k ∈ wornK B ↔ k ∈ B := by unfold wornK; rw [foldl_mem]; simp

theorem findK_ints (k : Int) (v : V) : ∀ (ks : List Int), findK (.int .i64 k) (ints ks) (List.replicate ks.length v) = some (if k ∈ ks then some v else none)
  | [] => by simp [findK]
  | c :: ks => by
    simp only [List.map_cons, List.length_cons, List.replicate_succ, findK, sameKey]
    by_cases h : k = c
    · subst h; simp
    · have : (k == c) = false := by simpa using h
      simp only [if_true, this]
      rw [findK_ints k v ks]
      simp [h]
theorem findK_worn (k : Int) (v : V) (B : List Int) : findK (.int .i64 k) (ints (wornK B)) (List.replicate (wornK B).length v) = some (if k ∈ B then some v else none) := by
  rw [findK_ints]
  simp only [mem_worn]
theorem setK_ints (k : Int) (v : V) : ∀ (ks : List Int), setK (.int .i64 k) v (ints ks) (List.replicate ks.length v) = List.replicate ks.length v
  | [] => by simp [setK]
  | c :: ks => by
    simp only [List.map_cons, List.length_cons, List.replicate_succ, setK, sameKey]
    by_cases h : k = c
    · subst h; simp
    · have : (k == c) = false := by simpa using h
      simp only [if_true, this]
      rw [setK_ints k v ks]

theorem worn_eq (S : List (List UInt8)) (B : List Int) (hB : B.length ≤ maxLen) : bodyW DC 160 [drv S B] [] = some (.map 0, [.map true (ints (wornK B)) (List.replicate (wornK B).length (.bool true))]) := by
  unfold maxLen at hB
  (refine gives_iff ?_; refine go_func Tryz.f160 rfl rfl (by simp [Tryz.f160]) ?_; dsimp only [codeL, Tryz.f160, scL, sopsL, guardL, dstAt, loopKey])
  (repeat (first
    | (apply is_ok; (case hw => simp); (case he => simp; exact is_rfl))
    | (apply op_no; (case hw => simp))
    | refine op_nil ?_ | refine next_normal ?_ | refine go_seq ?_ | refine go_region ?_ | refine go_skip ?_ | refine go_block ?_ | refine inb_normal ?_
    | (apply go_yes; (case hc => simp)) | (apply go_no; (case hc => simp))
    | refine go_exit ?_ | refine next_exit ?_ | refine inb_here ?_ | refine inb_past (by decide) ?_ | refine go_ret ?_ | refine next_ret ?_ | refine inb_ret ?_))
  refine go_count B.length (fun i => [(3, .map 0), (8, .sl (ints B)), (9, .int .i64 B.length), (10, .int .i64 i)]) (fun i => [.map true (ints (wornK (B.take i))) (List.replicate (wornK (B.take i)).length (.bool true))]) (fun _ => True) (by simp [wornK]) trivial fun i hi _ => ?_
  by_cases hlt : i < B.length
  · have hw : IntKind.i64.wrap ((i : Int) + 1) = (i : Int) + 1 := wrap_id (by omega) (by omega)
    have hf := findK_ints B[i] (.bool true) (wornK (B.take i))
    have hs := setK_ints B[i] (.bool true) (wornK (B.take i))
    by_cases hm : B[i] ∈ wornK (B.take i)
    · rw [if_pos hm] at hf
      (repeat (first
    | (apply is_ok; (case hw => simp [hlt, hf, hs]); (case he => simp [hlt, hf, hs]; exact is_rfl))
    | (apply op_no; (case hw => simp [hlt, hf, hs]))
    | refine op_nil ?_ | refine next_normal ?_ | refine go_seq ?_ | refine go_region ?_ | refine go_skip ?_ | refine go_block ?_ | refine inb_normal ?_
    | (apply go_yes; (case hc => simp [hlt, hf, hs])) | (apply go_no; (case hc => simp [hlt, hf, hs]))
    | refine go_exit ?_ | refine next_exit ?_ | refine inb_here ?_ | refine inb_past (by decide) ?_ | refine go_ret ?_ | refine next_ret ?_ | refine inb_ret ?_))
      exact ⟨hlt, by simp [hw, wornK_take hlt, hm], trivial⟩
    · rw [if_neg hm] at hf
      (repeat (first
    | (apply is_ok; (case hw => simp [hlt, hf, hs]); (case he => simp [hlt, hf, hs]; exact is_rfl))
    | (apply op_no; (case hw => simp [hlt, hf, hs]))
    | refine op_nil ?_ | refine next_normal ?_ | refine go_seq ?_ | refine go_region ?_ | refine go_skip ?_ | refine go_block ?_ | refine inb_normal ?_
    | (apply go_yes; (case hc => simp [hlt, hf, hs])) | (apply go_no; (case hc => simp [hlt, hf, hs]))
    | refine go_exit ?_ | refine next_exit ?_ | refine inb_here ?_ | refine inb_past (by decide) ?_ | refine go_ret ?_ | refine next_ret ?_ | refine inb_ret ?_))
      exact ⟨hlt, by simp [hw, wornK_take hlt, hm, List.replicate_succ'], trivial⟩
  · have : i = B.length := by omega
    subst this
    rw [List.take_length]
    (repeat (first
    | (apply is_ok; (case hw => simp); (case he => simp; exact is_rfl))
    | (apply op_no; (case hw => simp))
    | refine op_nil ?_ | refine next_normal ?_ | refine go_seq ?_ | refine go_region ?_ | refine go_skip ?_ | refine go_block ?_ | refine inb_normal ?_
    | (apply go_yes; (case hc => simp)) | (apply go_no; (case hc => simp))
    | refine go_exit ?_ | refine next_exit ?_ | refine inb_here ?_ | refine inb_past (by decide) ?_ | refine go_ret ?_ | refine next_ret ?_ | refine inb_ret ?_))
    (apply ends_ok; (case h1 => simp; exact is_rfl); (case h2 => simp; exact is_rfl))
    simp

def readS (S : List (List UInt8)) (B : List Int) (k : Int) : List UInt8 × Int := if 0 ≤ k ∧ k < S.length then if k ∈ B then ([], 21) else (S.getD k.toNat [], 0) else ([], 2)

theorem Read_eq (S : List (List UInt8)) (B : List Int) (hB : B.length ≤ maxLen) (k : Int) : bodyW DC 116 [drv S B, .int .i64 k] [] = some (.tuple [.str (readS S B k).1, .int .i64 (readS S B k).2], []) := by
  have hH := has_eq S B k
  have hW := worn_eq S B hB
  have hf := findK_worn k (.bool true) B
  unfold readS
  (refine gives_iff ?_; refine go_func Tryz.f116 rfl rfl (by simp [Tryz.f116]) ?_; dsimp only [codeL, Tryz.f116, scL, sopsL, guardL, dstAt, loopKey])
  by_cases h : 0 ≤ k ∧ k < S.length
  · have hl : k.toNat < S.length := by omega
    by_cases hk : k ∈ B
    · rw [if_pos hk] at hf
      (repeat (first
    | (apply is_ok; (case hw => simp [hH, hW, hf, h]); (case he => simp [hH, hW, hf, h]; exact is_rfl))
    | (apply op_no; (case hw => simp [hH, hW, hf, h]))
    | refine op_nil ?_ | refine next_normal ?_ | refine go_seq ?_ | refine go_region ?_ | refine go_skip ?_ | refine go_block ?_ | refine inb_normal ?_
    | (apply go_yes; (case hc => simp [hH, hW, hf, h])) | (apply go_no; (case hc => simp [hH, hW, hf, h]))
    | refine go_exit ?_ | refine next_exit ?_ | refine inb_here ?_ | refine inb_past (by decide) ?_ | refine go_ret ?_ | refine next_ret ?_ | refine inb_ret ?_))
      (apply ends_ok; (case h1 => simp; exact is_rfl); (case h2 => simp; exact is_rfl))
      simp [h, hk]
    · rw [if_neg hk] at hf
      (repeat (first
    | (apply is_ok; (case hw => simp [hH, hW, hf, h, hl]); (case he => simp [hH, hW, hf, h, hl]; exact is_rfl))
    | (apply op_no; (case hw => simp [hH, hW, hf, h, hl]))
    | refine op_nil ?_ | refine next_normal ?_ | refine go_seq ?_ | refine go_region ?_ | refine go_skip ?_ | refine go_block ?_ | refine inb_normal ?_
    | (apply go_yes; (case hc => simp [hH, hW, hf, h, hl])) | (apply go_no; (case hc => simp [hH, hW, hf, h, hl]))
    | refine go_exit ?_ | refine next_exit ?_ | refine inb_here ?_ | refine inb_past (by decide) ?_ | refine go_ret ?_ | refine next_ret ?_ | refine inb_ret ?_))
      (apply ends_ok; (case h1 => simp; exact is_rfl); (case h2 => simp; exact is_rfl))
      simp [h, hk, hl]
  · (repeat (first
    | (apply is_ok; (case hw => simp [hH, h]); (case he => simp [hH, h]; exact is_rfl))
    | (apply op_no; (case hw => simp [hH, h]))
    | refine op_nil ?_ | refine next_normal ?_ | refine go_seq ?_ | refine go_region ?_ | refine go_skip ?_ | refine go_block ?_ | refine inb_normal ?_
    | (apply go_yes; (case hc => simp [hH, h])) | (apply go_no; (case hc => simp [hH, h]))
    | refine go_exit ?_ | refine next_exit ?_ | refine inb_here ?_ | refine inb_past (by decide) ?_ | refine go_ret ?_ | refine next_ret ?_ | refine inb_ret ?_))
    (apply ends_ok; (case h1 => simp; exact is_rfl); (case h2 => simp; exact is_rfl))
    simp [h]

theorem ReadR_eq (S : List (List UInt8)) (B : List Int) (hB : B.length ≤ maxLen) (k : Int) : bodyW DC 119 [drv S B, .int .i64 k] [] = some (.tuple [.str (readS S B k).1, .int .i64 (readS S B k).2], []) := by
  have hI := Isbad_eq S B hB k
  unfold readS
  (refine gives_iff ?_; refine go_func Tryz.f119 rfl rfl (by simp [Tryz.f119]) ?_; dsimp only [codeL, Tryz.f119, scL, sopsL, guardL, dstAt, loopKey])
  by_cases h : 0 ≤ k ∧ k < S.length
  · have hl : k.toNat < S.length := by omega
    have h1 : ¬ (k < 0) := by omega
    have h2 : ¬ ((S.length : Int) ≤ k) := by omega
    by_cases hk : k ∈ B
    · (repeat (first
    | (apply is_ok; (case hw => simp [hI, h, h1, h2, hk]); (case he => simp [hI, h, h1, h2, hk]; exact is_rfl))
    | (apply op_no; (case hw => simp [hI, h, h1, h2, hk]))
    | refine op_nil ?_ | refine next_normal ?_ | refine go_seq ?_ | refine go_region ?_ | refine go_skip ?_ | refine go_block ?_ | refine inb_normal ?_
    | (apply go_yes; (case hc => simp [hI, h, h1, h2, hk])) | (apply go_no; (case hc => simp [hI, h, h1, h2, hk]))
    | refine go_exit ?_ | refine next_exit ?_ | refine inb_here ?_ | refine inb_past (by decide) ?_ | refine go_ret ?_ | refine next_ret ?_ | refine inb_ret ?_))
      (apply ends_ok; (case h1 => simp; exact is_rfl); (case h2 => simp; exact is_rfl))
      simp [h, hk]
    · (repeat (first
    | (apply is_ok; (case hw => simp [hI, h, h1, h2, hk, hl]); (case he => simp [hI, h, h1, h2, hk, hl]; exact is_rfl))
    | (apply op_no; (case hw => simp [hI, h, h1, h2, hk, hl]))
    | refine op_nil ?_ | refine next_normal ?_ | refine go_seq ?_ | refine go_region ?_ | refine go_skip ?_ | refine go_block ?_ | refine inb_normal ?_
    | (apply go_yes; (case hc => simp [hI, h, h1, h2, hk, hl])) | (apply go_no; (case hc => simp [hI, h, h1, h2, hk, hl]))
    | refine go_exit ?_ | refine next_exit ?_ | refine inb_here ?_ | refine inb_past (by decide) ?_ | refine go_ret ?_ | refine next_ret ?_ | refine inb_ret ?_))
      (apply ends_ok; (case h1 => simp; exact is_rfl); (case h2 => simp; exact is_rfl))
      simp [h, hk, hl]
  · by_cases h1 : k < 0
    · (repeat (first
    | (apply is_ok; (case hw => simp [h1]); (case he => simp [h1]; exact is_rfl))
    | (apply op_no; (case hw => simp [h1]))
    | refine op_nil ?_ | refine next_normal ?_ | refine go_seq ?_ | refine go_region ?_ | refine go_skip ?_ | refine go_block ?_ | refine inb_normal ?_
    | (apply go_yes; (case hc => simp [h1])) | (apply go_no; (case hc => simp [h1]))
    | refine go_exit ?_ | refine next_exit ?_ | refine inb_here ?_ | refine inb_past (by decide) ?_ | refine go_ret ?_ | refine next_ret ?_ | refine inb_ret ?_))
      (apply ends_ok; (case h1 => simp; exact is_rfl); (case h2 => simp; exact is_rfl))
      simp [h]
    · have h2 : ((S.length : Int) ≤ k) := by omega
      (repeat (first
    | (apply is_ok; (case hw => simp [h1, h2]); (case he => simp [h1, h2]; exact is_rfl))
    | (apply op_no; (case hw => simp [h1, h2]))
    | refine op_nil ?_ | refine next_normal ?_ | refine go_seq ?_ | refine go_region ?_ | refine go_skip ?_ | refine go_block ?_ | refine inb_normal ?_
    | (apply go_yes; (case hc => simp [h1, h2])) | (apply go_no; (case hc => simp [h1, h2]))
    | refine go_exit ?_ | refine next_exit ?_ | refine inb_here ?_ | refine inb_past (by decide) ?_ | refine go_ret ?_ | refine next_ret ?_ | refine inb_ret ?_))
      (apply ends_ok; (case h1 => simp; exact is_rfl); (case h2 => simp; exact is_rfl))
      simp [h]

abbrev wrV (w : Int × List UInt8) : V := .agg [.int .i64 w.1, .str w.2]
def faultI (n : Nat) (B : List Int) (w : Int × List UInt8) : Int := if 0 ≤ w.1 ∧ w.1 < n then if 128 < w.2.length then 7 else if w.1 ∈ B then 21 else 0 else 2

end Go.Abs

namespace Go.Abs
open Go.Proofs
set_option maxRecDepth 100000
set_option linter.unusedSimpArgs false

end Go.Abs

namespace Go.Abs
open Go.Proofs
set_option maxRecDepth 100000
set_option linter.unusedSimpArgs false

def putS (S : List (List UInt8)) (w : Int × List UInt8) : List (List UInt8) := S.set w.1.toNat (w.2 ++ List.replicate (128 - w.2.length) 0)

theorem faultI_zero {n : Nat} {B : List Int} {w : Int × List UInt8} : faultI n B w = 0 ↔ (0 ≤ w.1 ∧ w.1 < n) ∧ w.2.length ≤ 128 ∧ w.1 ∉ B := by
  unfold faultI
  by_cases h : 0 ≤ w.1 ∧ w.1 < n
  · by_cases h2 : 128 < w.2.length
    · simp [h, h2]; omega
    · by_cases h3 : w.1 ∈ B
      · simp [h, h2, h3]
      · simp [h, h2, h3]; omega
  · simp [h]

theorem repeatL_zero (n : Nat) : Lib.repeatL [0] n = List.replicate n (0 : UInt8) := by
  induction n with
  | zero => rfl
  | succ n ih => show [0] ++ Lib.repeatL [0] n = _; rw [ih]; rfl

end Go.Abs

namespace Go.Abs
open Go.Proofs
set_option maxRecDepth 100000
set_option linter.unusedSimpArgs false
set_option linter.unusedVariables false

theorem u8s_append (a b : List UInt8) : u8s (a ++ b) = u8s a ++ u8s b := by simp [u8s]
@[simp] theorem u8s_length (a : List UInt8) : (u8s a).length = a.length := by simp [u8s]
/-- A text filled with zeros. -/
def padS (s : List UInt8) : List UInt8 := s ++ List.replicate (128 - s.length) 0
theorem padS_length {s : List UInt8} (h : s.length ≤ 128) : (padS s).length = 128 := by simp [padS]; omega

theorem padded_eq (s : List UInt8) (h : s.length ≤ 128) : bodyW DC 194 [.str s] [] = some (.str (padS s), []) := by
  have e4 : IntKind.i64.wrap (128 - (s.length : Int)) = ((128 - s.length : Nat) : Int) := by rw [wrap_id (by omega) (by omega)]; omega
  have e5 : 128 - s.length ≤ 140737488355328 := by omega
  have e6 : ((128 - s.length : Nat) : Int) ≤ 9223372036854775807 := by omega
  have r3 : s.length + (128 - s.length) ≤ room := by unfold room; omega
  (refine gives_iff ?_; refine go_func Tryz.f194 rfl rfl (by simp [Tryz.f194]) ?_; dsimp only [codeL, Tryz.f194, scL, sopsL, guardL, dstAt, loopKey])
  (repeat (first
    | (apply is_ok; (case hw => simp [e4, e5, e6, r3, repeatX, repeatL_zero]); (case he => simp [e4, e5, e6, r3, repeatX, repeatL_zero]; exact is_rfl))
    | (apply op_no; (case hw => simp [e4, e5, e6, r3, repeatX, repeatL_zero]))
    | refine op_nil ?_ | refine next_normal ?_ | refine go_seq ?_ | refine go_region ?_ | refine go_skip ?_ | refine go_block ?_ | refine inb_normal ?_
    | (apply go_yes; (case hc => simp [e4, e5, e6, r3, repeatX, repeatL_zero])) | (apply go_no; (case hc => simp [e4, e5, e6, r3, repeatX, repeatL_zero]))
    | refine go_exit ?_ | refine next_exit ?_ | refine inb_here ?_ | refine inb_past (by decide) ?_ | refine go_ret ?_ | refine next_ret ?_ | refine inb_ret ?_))
  (apply ends_ok; (case h1 => simp; exact is_rfl); (case h2 => simp; exact is_rfl))
  simp [padS]

theorem zeros37_eq (s : List UInt8) (h : s.length ≤ 128) : bodyW DC 85 [.str s] [] = some (.str (padS s), []) := by
  have r0 : s.length ≤ room := by unfold room; omega
  (refine gives_iff ?_; refine go_func Tryz.f85 rfl rfl (by simp [Tryz.f85]) ?_; dsimp only [codeL, Tryz.f85, scL, sopsL, guardL, dstAt, loopKey])
  (repeat (first
    | (apply is_ok; (case hw => simp [r0]); (case he => simp [r0]; exact is_rfl))
    | (apply op_no; (case hw => simp [r0]))
    | refine op_nil ?_ | refine next_normal ?_ | refine go_seq ?_ | refine go_region ?_ | refine go_skip ?_ | refine go_block ?_ | refine inb_normal ?_
    | (apply go_yes; (case hc => simp [r0])) | (apply go_no; (case hc => simp [r0]))
    | refine go_exit ?_ | refine next_exit ?_ | refine inb_here ?_ | refine inb_past (by decide) ?_ | refine go_ret ?_ | refine next_ret ?_ | refine inb_ret ?_))
  refine go_count (128 - s.length) (fun i => [(3, .own 0 (s.length + i) 0 (s.length + i))]) (fun i => [.dat true 1 (u8s (s ++ List.replicate i 0))]) (fun _ => True) (by simp) trivial fun i hi _ => ?_
  have hl : (s ++ List.replicate i (0 : UInt8)).length = s.length + i := by simp
  have ha : u8s (s ++ List.replicate (i + 1) 0) = u8s (s ++ List.replicate i 0) ++ [.int .u8 0] := by
    rw [List.replicate_succ', ← List.append_assoc, u8s_append _ [0]]; rfl
  have hq : i = 128 - s.length → s ++ List.replicate i (0 : UInt8) = padS s := fun h => by rw [h]; rfl
  generalize s ++ List.replicate i (0 : UInt8) = t at hl ha hq
  generalize hn : s.length + i = n at hl
  have r1 : n + 1 ≤ room := by unfold room; omega
  by_cases hlt : n < 128
  · have hlt' : (n : Int) < 128 := by omega
    (repeat (first
    | (apply is_ok; (case hw => simp [hl, hlt, hlt', r1]); (case he => simp [hl, hlt, hlt', r1]; exact is_rfl))
    | (apply op_no; (case hw => simp [hl, hlt, hlt', r1]))
    | refine op_nil ?_ | refine next_normal ?_ | refine go_seq ?_ | refine go_region ?_ | refine go_skip ?_ | refine go_block ?_ | refine inb_normal ?_
    | (apply go_yes; (case hc => simp [hl, hlt, hlt', r1])) | (apply go_no; (case hc => simp [hl, hlt, hlt', r1]))
    | refine go_exit ?_ | refine next_exit ?_ | refine inb_here ?_ | refine inb_past (by decide) ?_ | refine go_ret ?_ | refine next_ret ?_ | refine inb_ret ?_))
    exact ⟨by omega, by simp [ha, ← hn, Nat.add_assoc], trivial⟩
  · have hlt' : ¬ ((n : Int) < 128) := by omega
    (repeat (first
    | (apply is_ok; (case hw => simp [hl, hlt, hlt']); (case he => simp [hl, hlt, hlt']; exact is_rfl))
    | (apply op_no; (case hw => simp [hl, hlt, hlt']))
    | refine op_nil ?_ | refine next_normal ?_ | refine go_seq ?_ | refine go_region ?_ | refine go_skip ?_ | refine go_block ?_ | refine inb_normal ?_
    | (apply go_yes; (case hc => simp [hl, hlt, hlt'])) | (apply go_no; (case hc => simp [hl, hlt, hlt']))
    | refine go_exit ?_ | refine next_exit ?_ | refine inb_here ?_ | refine inb_past (by decide) ?_ | refine go_ret ?_ | refine next_ret ?_ | refine inb_ret ?_))
    (apply ends_ok; (case h1 => simp; exact is_rfl); (case h2 => simp; exact is_rfl))
    simp [hq (by omega)]

theorem fits_eq (n w : Int) (h : 0 ≤ n ∧ n ≤ 1000000) : bodyW DC 172 [.int .i64 n, .int .i64 w] [] = some (.bool (decide (32 ≤ n ∧ n ≤ 256 ∧ 0 ≤ w ∧ w ≤ n - 32)), []) := by
  have e : IntKind.i64.wrap (n - 32) = n - 32 := wrap_id (by omega) (by omega)
  by_cases h1 : 32 ≤ n
  · by_cases h2 : n ≤ 256
    · by_cases h3 : 0 ≤ w
      · (refine gives_iff ?_; refine go_func Tryz.f172 rfl rfl (by simp [Tryz.f172]) ?_; dsimp only [codeL, Tryz.f172, scL, sopsL, guardL, dstAt, loopKey])
        (repeat (first
    | (apply is_ok; (case hw => simp [e, h1, h2, h3]); (case he => simp [e, h1, h2, h3]; exact is_rfl))
    | (apply op_no; (case hw => simp [e, h1, h2, h3]))
    | refine op_nil ?_ | refine next_normal ?_ | refine go_seq ?_ | refine go_region ?_ | refine go_skip ?_ | refine go_block ?_ | refine inb_normal ?_
    | (apply go_yes; (case hc => simp [e, h1, h2, h3])) | (apply go_no; (case hc => simp [e, h1, h2, h3]))
    | refine go_exit ?_ | refine next_exit ?_ | refine inb_here ?_ | refine inb_past (by decide) ?_ | refine go_ret ?_ | refine next_ret ?_ | refine inb_ret ?_))
        (apply ends_ok; (case h1 => simp; exact is_rfl); (case h2 => simp; exact is_rfl))
        simp [h1, h2, h3]
      · (refine gives_iff ?_; refine go_func Tryz.f172 rfl rfl (by simp [Tryz.f172]) ?_; dsimp only [codeL, Tryz.f172, scL, sopsL, guardL, dstAt, loopKey])
        (repeat (first
    | (apply is_ok; (case hw => simp [e, h1, h2, h3]); (case he => simp [e, h1, h2, h3]; exact is_rfl))
    | (apply op_no; (case hw => simp [e, h1, h2, h3]))
    | refine op_nil ?_ | refine next_normal ?_ | refine go_seq ?_ | refine go_region ?_ | refine go_skip ?_ | refine go_block ?_ | refine inb_normal ?_
    | (apply go_yes; (case hc => simp [e, h1, h2, h3])) | (apply go_no; (case hc => simp [e, h1, h2, h3]))
    | refine go_exit ?_ | refine next_exit ?_ | refine inb_here ?_ | refine inb_past (by decide) ?_ | refine go_ret ?_ | refine next_ret ?_ | refine inb_ret ?_))
        (apply ends_ok; (case h1 => simp; exact is_rfl); (case h2 => simp; exact is_rfl))
        simp [h1, h2, h3]
    · (refine gives_iff ?_; refine go_func Tryz.f172 rfl rfl (by simp [Tryz.f172]) ?_; dsimp only [codeL, Tryz.f172, scL, sopsL, guardL, dstAt, loopKey])
      (repeat (first
    | (apply is_ok; (case hw => simp [e, h1, h2]); (case he => simp [e, h1, h2]; exact is_rfl))
    | (apply op_no; (case hw => simp [e, h1, h2]))
    | refine op_nil ?_ | refine next_normal ?_ | refine go_seq ?_ | refine go_region ?_ | refine go_skip ?_ | refine go_block ?_ | refine inb_normal ?_
    | (apply go_yes; (case hc => simp [e, h1, h2])) | (apply go_no; (case hc => simp [e, h1, h2]))
    | refine go_exit ?_ | refine next_exit ?_ | refine inb_here ?_ | refine inb_past (by decide) ?_ | refine go_ret ?_ | refine next_ret ?_ | refine inb_ret ?_))
      (apply ends_ok; (case h1 => simp; exact is_rfl); (case h2 => simp; exact is_rfl))
      simp [h1, h2]
  · (refine gives_iff ?_; refine go_func Tryz.f172 rfl rfl (by simp [Tryz.f172]) ?_; dsimp only [codeL, Tryz.f172, scL, sopsL, guardL, dstAt, loopKey])
    (repeat (first
    | (apply is_ok; (case hw => simp [e, h1]); (case he => simp [e, h1]; exact is_rfl))
    | (apply op_no; (case hw => simp [e, h1]))
    | refine op_nil ?_ | refine next_normal ?_ | refine go_seq ?_ | refine go_region ?_ | refine go_skip ?_ | refine go_block ?_ | refine inb_normal ?_
    | (apply go_yes; (case hc => simp [e, h1])) | (apply go_no; (case hc => simp [e, h1]))
    | refine go_exit ?_ | refine next_exit ?_ | refine inb_here ?_ | refine inb_past (by decide) ?_ | refine go_ret ?_ | refine next_ret ?_ | refine inb_ret ?_))
    (apply ends_ok; (case h1 => simp; exact is_rfl); (case h2 => simp; exact is_rfl))
    simp [h1]

def superS (n w : Int) : List UInt8 := padS ([69, 77, 86, 49] ++ (put2 n ++ put2 w))
theorem super_eq (n w : Int) (hn : n ≤ 9223372036854775807) (hw : w ≤ 9223372036854775807) : bodyW DC 173 [.int .i64 n, .int .i64 w] [] = some (.str (superS n w), []) := by
  have hp := padded_eq ([69, 77, 86, 49] ++ (put2 n ++ put2 w)) (by simp)
  have p1 := Put_eq n hn
  have p2 := Put_eq w hw
  unfold superS
  simp only [List.cons_append, List.nil_append] at hp ⊢
  (refine gives_iff ?_; refine go_func Tryz.f173 rfl rfl (by simp [Tryz.f173]) ?_; dsimp only [codeL, Tryz.f173, scL, sopsL, guardL, dstAt, loopKey])
  (repeat (first
    | (apply is_ok; (case hw => simp [p1, p2, hp, room]); (case he => simp [p1, p2, hp, room]; exact is_rfl))
    | (apply op_no; (case hw => simp [p1, p2, hp, room]))
    | refine op_nil ?_ | refine next_normal ?_ | refine go_seq ?_ | refine go_region ?_ | refine go_skip ?_ | refine go_block ?_ | refine inb_normal ?_
    | (apply go_yes; (case hc => simp [p1, p2, hp, room])) | (apply go_no; (case hc => simp [p1, p2, hp, room]))
    | refine go_exit ?_ | refine next_exit ?_ | refine inb_here ?_ | refine inb_past (by decide) ?_ | refine go_ret ?_ | refine next_ret ?_ | refine inb_ret ?_))
  (apply ends_ok; (case h1 => simp; exact is_rfl); (case h2 => simp; exact is_rfl))
  simp
theorem head_eq (n w : Int) (hn : n ≤ 9223372036854775807) (hw : w ≤ 9223372036854775807) : bodyW DC 94 [.int .i64 n, .int .i64 w] [] = some (.str (superS n w), []) := by
  have hp := zeros37_eq ([69, 77, 86, 49] ++ (put2 n ++ put2 w)) (by simp)
  have p1 := PutR_eq n hn
  have p2 := PutR_eq w hw
  unfold superS
  simp only [List.cons_append, List.nil_append] at hp ⊢
  (refine gives_iff ?_; refine go_func Tryz.f94 rfl rfl (by simp [Tryz.f94]) ?_; dsimp only [codeL, Tryz.f94, scL, sopsL, guardL, dstAt, loopKey])
  (repeat (first
    | (apply is_ok; (case hw => simp [p1, p2, hp, room]); (case he => simp [p1, p2, hp, room]; exact is_rfl))
    | (apply op_no; (case hw => simp [p1, p2, hp, room]))
    | refine op_nil ?_ | refine next_normal ?_ | refine go_seq ?_ | refine go_region ?_ | refine go_skip ?_ | refine go_block ?_ | refine inb_normal ?_
    | (apply go_yes; (case hc => simp [p1, p2, hp, room])) | (apply go_no; (case hc => simp [p1, p2, hp, room]))
    | refine go_exit ?_ | refine next_exit ?_ | refine inb_here ?_ | refine inb_past (by decide) ?_ | refine go_ret ?_ | refine next_ret ?_ | refine inb_ret ?_))
  (apply ends_ok; (case h1 => simp; exact is_rfl); (case h2 => simp; exact is_rfl))
  simp

theorem bad_eq (S : List (List UInt8)) (B : List Int) (hB : B.length ≤ maxLen) (k : Int) : bodyW DC 86 [drv S B, .int .i64 k] [] = some (.bool (decide (k ∈ B)), []) := by
  unfold maxLen at hB
  (refine gives_iff ?_; refine go_func Tryz.f86 rfl rfl (by simp [Tryz.f86]) ?_; dsimp only [codeL, Tryz.f86, scL, sopsL, guardL, dstAt, loopKey])
  (repeat (first
    | (apply is_ok; (case hw => simp); (case he => simp; exact is_rfl))
    | (apply op_no; (case hw => simp))
    | refine op_nil ?_ | refine next_normal ?_ | refine go_seq ?_ | refine go_region ?_ | refine go_skip ?_ | refine go_block ?_ | refine inb_normal ?_
    | (apply go_yes; (case hc => simp)) | (apply go_no; (case hc => simp))
    | refine go_exit ?_ | refine next_exit ?_ | refine inb_here ?_ | refine inb_past (by decide) ?_ | refine go_ret ?_ | refine next_ret ?_ | refine inb_ret ?_))
  refine go_count B.length (fun i => [(1, .int .i64 k), (2, .ptr 0 1 0 0), (5, .int .i64 i)]) (fun _ => [.box (drv S B)]) (fun i => ∀ j (hj : j < B.length), j < i → B[j] ≠ k) (by simp) (by simp) fun i hi hI => ?_
  by_cases hlt : i < B.length
  · have hw : IntKind.i64.wrap ((i : Int) + 1) = (i : Int) + 1 := wrap_id (by omega) (by omega)
    by_cases h3 : B[i] = k
    · (repeat (first
    | (apply is_ok; (case hw => simp [hlt, h3]); (case he => simp [hlt, h3]; exact is_rfl))
    | (apply op_no; (case hw => simp [hlt, h3]))
    | refine op_nil ?_ | refine next_normal ?_ | refine go_seq ?_ | refine go_region ?_ | refine go_skip ?_ | refine go_block ?_ | refine inb_normal ?_
    | (apply go_yes; (case hc => simp [hlt, h3])) | (apply go_no; (case hc => simp [hlt, h3]))
    | refine go_exit ?_ | refine next_exit ?_ | refine inb_here ?_ | refine inb_past (by decide) ?_ | refine go_ret ?_ | refine next_ret ?_ | refine inb_ret ?_))
      (apply ends_ok; (case h1 => simp; exact is_rfl); (case h2 => simp; exact is_rfl))
      have : k ∈ B := h3 ▸ List.getElem_mem hlt
      simp [this]
    · (repeat (first
    | (apply is_ok; (case hw => simp [hlt, h3]); (case he => simp [hlt, h3]; exact is_rfl))
    | (apply op_no; (case hw => simp [hlt, h3]))
    | refine op_nil ?_ | refine next_normal ?_ | refine go_seq ?_ | refine go_region ?_ | refine go_skip ?_ | refine go_block ?_ | refine inb_normal ?_
    | (apply go_yes; (case hc => simp [hlt, h3])) | (apply go_no; (case hc => simp [hlt, h3]))
    | refine go_exit ?_ | refine next_exit ?_ | refine inb_here ?_ | refine inb_past (by decide) ?_ | refine go_ret ?_ | refine next_ret ?_ | refine inb_ret ?_))
      exact ⟨hlt, by simp [hw], fun j hj hji => by
        by_cases hje : j = i
        · subst hje; exact h3
        · exact hI j hj (by omega)⟩
  · (repeat (first
    | (apply is_ok; (case hw => simp [hlt]); (case he => simp [hlt]; exact is_rfl))
    | (apply op_no; (case hw => simp [hlt]))
    | refine op_nil ?_ | refine next_normal ?_ | refine go_seq ?_ | refine go_region ?_ | refine go_skip ?_ | refine go_block ?_ | refine inb_normal ?_
    | (apply go_yes; (case hc => simp [hlt])) | (apply go_no; (case hc => simp [hlt]))
    | refine go_exit ?_ | refine next_exit ?_ | refine inb_here ?_ | refine inb_past (by decide) ?_ | refine go_ret ?_ | refine next_ret ?_ | refine inb_ret ?_))
    (apply ends_ok; (case h1 => simp; exact is_rfl); (case h2 => simp; exact is_rfl))
    have : k ∉ B := fun h => by
      obtain ⟨j, hj, h⟩ := List.getElem_of_mem h
      exact hI j hj (by omega) h
    simp [this]
end Go.Abs

namespace Go.Abs
open Go.Proofs
set_option maxRecDepth 100000
set_option linter.unusedSimpArgs false
set_option linter.unusedVariables false

def swapW (S : List (List UInt8)) : Int := word ((S.getD 0 []).getD 6 0) ((S.getD 0 []).getD 7 0)
/-- Is a drive a volume? -/
def VolP (S : List (List UInt8)) (B : List Int) : Prop := RightP S B ∧ 32 ≤ S.length ∧ (0 : Int) ∉ B ∧ swapW S ≤ S.length - 32 ∧ S.getD 0 [] = superS S.length (swapW S)
instance (S : List (List UInt8)) (B : List Int) : Decidable (VolP S B) := by unfold VolP; infer_instance

theorem getD_at {α : Type} {l : List α} {i : Nat} {d : α} (h : i < l.length) : l.getD i d = l[i]'h := by simp [h]

theorem s0_length {S : List (List UInt8)} {B : List Int} (h : RightP S B) : (S.getD 0 []).length = 128 := by
  have h1 : 0 < S.length := h.1
  have := h.2.2.1 S[0] (List.getElem_mem h1)
  simpa [h1] using this

theorem swapping_eq (S : List (List UInt8)) (B : List Int) (hB : B.length ≤ maxLen) : ∃ w, bodyW DC 138 [drv S B] [] = some (.tuple [.int .i64 w, .bool (decide (VolP S B))], []) ∧ (VolP S B → w = swapW S) := by
  have hV := Right_eq S B hB
  by_cases hr : RightP S B
  case neg =>
    have hk : ¬ VolP S B := fun h => hr h.1
    refine ⟨0, ?_, fun h => absurd h hk⟩
    (refine gives_iff ?_; refine go_func Tryz.f138 rfl rfl (by simp [Tryz.f138]) ?_; dsimp only [codeL, Tryz.f138, scL, sopsL, guardL, dstAt, loopKey])
    (repeat (first
    | (apply is_ok; (case hw => simp [hV, hr]); (case he => simp [hV, hr]; exact is_rfl))
    | (apply op_no; (case hw => simp [hV, hr]))
    | refine op_nil ?_ | refine next_normal ?_ | refine go_seq ?_ | refine go_region ?_ | refine go_skip ?_ | refine go_block ?_ | refine inb_normal ?_
    | (apply go_yes; (case hc => simp [hV, hr])) | (apply go_no; (case hc => simp [hV, hr]))
    | refine go_exit ?_ | refine next_exit ?_ | refine inb_here ?_ | refine inb_past (by decide) ?_ | refine go_ret ?_ | refine next_ret ?_ | refine inb_ret ?_))
    (apply ends_ok; (case h1 => simp; exact is_rfl); (case h2 => simp; exact is_rfl))
    simp [hk]
  have hR := Read_eq S B hB 0
  have h1 : 0 < S.length := hr.1
  have h2 : S.length ≤ 256 := hr.2.1
  by_cases h0 : (0 : Int) ∈ B
  case pos =>
    have hk : ¬ VolP S B := fun h => h.2.2.1 h0
    have hrd : readS S B 0 = ([], 21) := by unfold readS; rw [if_pos ⟨by omega, by omega⟩, if_pos h0]
    rw [hrd] at hR
    refine ⟨0, ?_, fun h => absurd h hk⟩
    (refine gives_iff ?_; refine go_func Tryz.f138 rfl rfl (by simp [Tryz.f138]) ?_; dsimp only [codeL, Tryz.f138, scL, sopsL, guardL, dstAt, loopKey])
    (repeat (first
    | (apply is_ok; (case hw => simp [hV, hr, hR]); (case he => simp [hV, hr, hR]; exact is_rfl))
    | (apply op_no; (case hw => simp [hV, hr, hR]))
    | refine op_nil ?_ | refine next_normal ?_ | refine go_seq ?_ | refine go_region ?_ | refine go_skip ?_ | refine go_block ?_ | refine inb_normal ?_
    | (apply go_yes; (case hc => simp [hV, hr, hR])) | (apply go_no; (case hc => simp [hV, hr, hR]))
    | refine go_exit ?_ | refine next_exit ?_ | refine inb_here ?_ | refine inb_past (by decide) ?_ | refine go_ret ?_ | refine next_ret ?_ | refine inb_ret ?_))
    (apply ends_ok; (case h1 => simp; exact is_rfl); (case h2 => simp; exact is_rfl))
    simp [hk]
  have hrd : readS S B 0 = (S.getD 0 [], 0) := by unfold readS; rw [if_pos ⟨by omega, by omega⟩, if_neg h0]; rfl
  rw [hrd] at hR
  have hl := s0_length hr
  have hG := Get_eq (S.getD 0 []) 6 (by omega) (by omega)
  have hw : word ((S.getD 0 [])[6]'(by omega)) ((S.getD 0 [])[6 + 1]'(by omega)) = swapW S := by
    unfold swapW
    rw [getD_at (l := S.getD 0 []) (i := 6) (by omega), getD_at (l := S.getD 0 []) (i := 7) (by omega)]
  rw [hw] at hG
  have hwr : 0 ≤ swapW S ∧ swapW S ≤ 65535 := by rw [← hw]; exact word_range _ _
  have hF := fits_eq S.length (swapW S) (by omega)
  have hS := super_eq S.length (swapW S) (by omega) (by omega)
  have hG' : bodyW DC 166 [.str (S.getD 0 []), .int .i64 6, .int .i64 2] [] = some (.tuple [.int .i64 (swapW S), .int .i64 8, .int .i64 0], []) := hG
  have hk : VolP S B ↔ (32 ≤ S.length ∧ swapW S ≤ S.length - 32) ∧ S.getD 0 [] = superS S.length (swapW S) := ⟨fun h => ⟨⟨h.2.1, h.2.2.2.1⟩, h.2.2.2.2⟩, fun h => ⟨hr, h.1.1, h0, h.1.2, h.2⟩⟩
  refine ⟨swapW S, ?_, fun _ => rfl⟩
  generalize swapW S = w at hG' hF hS hwr hk
  clear hG hw
  generalize S.getD 0 [] = s0 at hR hG' hk
  by_cases hf : 32 ≤ S.length ∧ w ≤ S.length - 32
  case neg =>
    have hf' : ¬ (32 ≤ (S.length : Int) ∧ (S.length : Int) ≤ 256 ∧ 0 ≤ w ∧ w ≤ (S.length : Int) - 32) := fun h => hf ⟨by omega, h.2.2.2⟩
    rw [decide_eq_false hf'] at hF
    have hk' : ¬ VolP S B := fun h => hf (hk.1 h).1
    (refine gives_iff ?_; refine go_func Tryz.f138 rfl rfl (by simp [Tryz.f138]) ?_; dsimp only [codeL, Tryz.f138, scL, sopsL, guardL, dstAt, loopKey])
    (repeat (first
    | (apply is_ok; (case hw => simp [hV, hr, hR, hG', hF]); (case he => simp [hV, hr, hR, hG', hF]; exact is_rfl))
    | (apply op_no; (case hw => simp [hV, hr, hR, hG', hF]))
    | refine op_nil ?_ | refine next_normal ?_ | refine go_seq ?_ | refine go_region ?_ | refine go_skip ?_ | refine go_block ?_ | refine inb_normal ?_
    | (apply go_yes; (case hc => simp [hV, hr, hR, hG', hF])) | (apply go_no; (case hc => simp [hV, hr, hR, hG', hF]))
    | refine go_exit ?_ | refine next_exit ?_ | refine inb_here ?_ | refine inb_past (by decide) ?_ | refine go_ret ?_ | refine next_ret ?_ | refine inb_ret ?_))
    (apply ends_ok; (case h1 => simp; exact is_rfl); (case h2 => simp; exact is_rfl))
    simp [hk']
  have hf' : (32 ≤ (S.length : Int) ∧ (S.length : Int) ≤ 256 ∧ 0 ≤ w ∧ w ≤ (S.length : Int) - 32) := ⟨by omega, by omega, hwr.1, hf.2⟩
  rw [decide_eq_true hf'] at hF
  by_cases hs : s0 = superS S.length w
  · have hk' : VolP S B := hk.2 ⟨hf, hs⟩
    subst hs
    (refine gives_iff ?_; refine go_func Tryz.f138 rfl rfl (by simp [Tryz.f138]) ?_; dsimp only [codeL, Tryz.f138, scL, sopsL, guardL, dstAt, loopKey])
    (repeat (first
    | (apply is_ok; (case hw => simp [hV, hr, hR, hG', hF, hS]); (case he => simp [hV, hr, hR, hG', hF, hS]; exact is_rfl))
    | (apply op_no; (case hw => simp [hV, hr, hR, hG', hF, hS]))
    | refine op_nil ?_ | refine next_normal ?_ | refine go_seq ?_ | refine go_region ?_ | refine go_skip ?_ | refine go_block ?_ | refine inb_normal ?_
    | (apply go_yes; (case hc => simp [hV, hr, hR, hG', hF, hS])) | (apply go_no; (case hc => simp [hV, hr, hR, hG', hF, hS]))
    | refine go_exit ?_ | refine next_exit ?_ | refine inb_here ?_ | refine inb_past (by decide) ?_ | refine go_ret ?_ | refine next_ret ?_ | refine inb_ret ?_))
    (apply ends_ok; (case h1 => simp; exact is_rfl); (case h2 => simp; exact is_rfl))
    simp [hk']
  · have hk' : ¬ VolP S B := fun h => hs (hk.1 h).2
    (refine gives_iff ?_; refine go_func Tryz.f138 rfl rfl (by simp [Tryz.f138]) ?_; dsimp only [codeL, Tryz.f138, scL, sopsL, guardL, dstAt, loopKey])
    (repeat (first
    | (apply is_ok; (case hw => simp [hV, hr, hR, hG', hF, hS, hs]); (case he => simp [hV, hr, hR, hG', hF, hS, hs]; exact is_rfl))
    | (apply op_no; (case hw => simp [hV, hr, hR, hG', hF, hS, hs]))
    | refine op_nil ?_ | refine next_normal ?_ | refine go_seq ?_ | refine go_region ?_ | refine go_skip ?_ | refine go_block ?_ | refine inb_normal ?_
    | (apply go_yes; (case hc => simp [hV, hr, hR, hG', hF, hS, hs])) | (apply go_no; (case hc => simp [hV, hr, hR, hG', hF, hS, hs]))
    | refine go_exit ?_ | refine next_exit ?_ | refine inb_here ?_ | refine inb_past (by decide) ?_ | refine go_ret ?_ | refine next_ret ?_ | refine inb_ret ?_))
    (apply ends_ok; (case h1 => simp; exact is_rfl); (case h2 => simp; exact is_rfl))
    simp [hk', hs]

/-- What Layout returns. -/
def layV (S : List (List UInt8)) (B : List Int) : V := if VolP S B then .tuple [.agg [.int .i64 27, .int .i64 (S.length - swapW S - 27)], .agg [.int .i64 (S.length - swapW S), .int .i64 (swapW S)], .int .i64 0]
  else .tuple [.agg [.int .i64 0, .int .i64 0], .agg [.int .i64 0, .int .i64 0], .int .i64 9]

theorem vol_bounds {S : List (List UInt8)} {B : List Int} (h : VolP S B) : 32 ≤ S.length ∧ S.length ≤ 256 ∧ 0 ≤ swapW S ∧ swapW S ≤ S.length - 32 := by
  refine ⟨h.2.1, h.1.2.1, ?_, h.2.2.2.1⟩
  unfold swapW
  exact (word_range _ _).1

theorem Layout_eq (S : List (List UInt8)) (B : List Int) (hB : B.length ≤ maxLen) : bodyW DC 99 [drv S B] [] = some (layV S B, []) := by
  obtain ⟨w, hW, hw⟩ := swapping_eq S B hB
  unfold layV
  by_cases hk : VolP S B
  · have hb := vol_bounds hk
    rw [hw hk] at hW
    have e1 : IntKind.i64.wrap ((S.length : Int) - swapW S) = S.length - swapW S := wrap_id (by omega) (by omega)
    have e2 : IntKind.i64.wrap ((S.length : Int) - swapW S - 27) = S.length - swapW S - 27 := wrap_id (by omega) (by omega)
    rw [if_pos hk]
    (refine gives_iff ?_; refine go_func Tryz.f99 rfl rfl (by simp [Tryz.f99]) ?_; dsimp only [codeL, Tryz.f99, scL, sopsL, guardL, dstAt, loopKey])
    (repeat (first
    | (apply is_ok; (case hw => simp [hW, hk, e1, e2]); (case he => simp [hW, hk, e1, e2]; exact is_rfl))
    | (apply op_no; (case hw => simp [hW, hk, e1, e2]))
    | refine op_nil ?_ | refine next_normal ?_ | refine go_seq ?_ | refine go_region ?_ | refine go_skip ?_ | refine go_block ?_ | refine inb_normal ?_
    | (apply go_yes; (case hc => simp [hW, hk, e1, e2])) | (apply go_no; (case hc => simp [hW, hk, e1, e2]))
    | refine go_exit ?_ | refine next_exit ?_ | refine inb_here ?_ | refine inb_past (by decide) ?_ | refine go_ret ?_ | refine next_ret ?_ | refine inb_ret ?_))
    (apply ends_ok; (case h1 => simp; exact is_rfl); (case h2 => simp; exact is_rfl))
    simp
  · rw [if_neg hk]
    (refine gives_iff ?_; refine go_func Tryz.f99 rfl rfl (by simp [Tryz.f99]) ?_; dsimp only [codeL, Tryz.f99, scL, sopsL, guardL, dstAt, loopKey])
    (repeat (first
    | (apply is_ok; (case hw => simp [hW, hk]); (case he => simp [hW, hk]; exact is_rfl))
    | (apply op_no; (case hw => simp [hW, hk]))
    | refine op_nil ?_ | refine next_normal ?_ | refine go_seq ?_ | refine go_region ?_ | refine go_skip ?_ | refine go_block ?_ | refine inb_normal ?_
    | (apply go_yes; (case hc => simp [hW, hk])) | (apply go_no; (case hc => simp [hW, hk]))
    | refine go_exit ?_ | refine next_exit ?_ | refine inb_here ?_ | refine inb_past (by decide) ?_ | refine go_ret ?_ | refine next_ret ?_ | refine inb_ret ?_))
    (apply ends_ok; (case h1 => simp; exact is_rfl); (case h2 => simp; exact is_rfl))
    simp

theorem LayoutR_eq (S : List (List UInt8)) (B : List Int) (hB : B.length ≤ maxLen) : bodyW DC 82 [drv S B] [] = some (layV S B, []) := by
  have hV := RightR_eq S B hB
  unfold layV
  by_cases hr : RightP S B
  case neg =>
    have hk : ¬ VolP S B := fun h => hr h.1
    rw [if_neg hk]
    (refine gives_iff ?_; refine go_func Tryz.f82 rfl rfl (by simp [Tryz.f82]) ?_; dsimp only [codeL, Tryz.f82, scL, sopsL, guardL, dstAt, loopKey])
    (repeat (first
    | (apply is_ok; (case hw => simp [hV, hr]); (case he => simp [hV, hr]; exact is_rfl))
    | (apply op_no; (case hw => simp [hV, hr]))
    | refine op_nil ?_ | refine next_normal ?_ | refine go_seq ?_ | refine go_region ?_ | refine go_skip ?_ | refine go_block ?_ | refine inb_normal ?_
    | (apply go_yes; (case hc => simp [hV, hr])) | (apply go_no; (case hc => simp [hV, hr]))
    | refine go_exit ?_ | refine next_exit ?_ | refine inb_here ?_ | refine inb_past (by decide) ?_ | refine go_ret ?_ | refine next_ret ?_ | refine inb_ret ?_))
    (apply ends_ok; (case h1 => simp; exact is_rfl); (case h2 => simp; exact is_rfl))
    simp
  have h2 : S.length ≤ 256 := hr.2.1
  have e2 : ¬ (256 : Int) < S.length := by omega
  by_cases h1 : 32 ≤ S.length
  case neg =>
    have hk : ¬ VolP S B := fun h => h1 h.2.1
    have e1 : (S.length : Int) < 32 := by omega
    rw [if_neg hk]
    (refine gives_iff ?_; refine go_func Tryz.f82 rfl rfl (by simp [Tryz.f82]) ?_; dsimp only [codeL, Tryz.f82, scL, sopsL, guardL, dstAt, loopKey])
    (repeat (first
    | (apply is_ok; (case hw => simp [hV, hr, e1]); (case he => simp [hV, hr, e1]; exact is_rfl))
    | (apply op_no; (case hw => simp [hV, hr, e1]))
    | refine op_nil ?_ | refine next_normal ?_ | refine go_seq ?_ | refine go_region ?_ | refine go_skip ?_ | refine go_block ?_ | refine inb_normal ?_
    | (apply go_yes; (case hc => simp [hV, hr, e1])) | (apply go_no; (case hc => simp [hV, hr, e1]))
    | refine go_exit ?_ | refine next_exit ?_ | refine inb_here ?_ | refine inb_past (by decide) ?_ | refine go_ret ?_ | refine next_ret ?_ | refine inb_ret ?_))
    (apply ends_ok; (case h1 => simp; exact is_rfl); (case h2 => simp; exact is_rfl))
    simp
  have e1 : ¬ (S.length : Int) < 32 := by omega
  have hI := bad_eq S B hB 0
  by_cases h0 : (0 : Int) ∈ B
  case pos =>
    have hk : ¬ VolP S B := fun h => h.2.2.1 h0
    rw [if_neg hk]
    (refine gives_iff ?_; refine go_func Tryz.f82 rfl rfl (by simp [Tryz.f82]) ?_; dsimp only [codeL, Tryz.f82, scL, sopsL, guardL, dstAt, loopKey])
    (repeat (first
    | (apply is_ok; (case hw => simp [hV, hr, e1, e2, hI, h0]); (case he => simp [hV, hr, e1, e2, hI, h0]; exact is_rfl))
    | (apply op_no; (case hw => simp [hV, hr, e1, e2, hI, h0]))
    | refine op_nil ?_ | refine next_normal ?_ | refine go_seq ?_ | refine go_region ?_ | refine go_skip ?_ | refine go_block ?_ | refine inb_normal ?_
    | (apply go_yes; (case hc => simp [hV, hr, e1, e2, hI, h0])) | (apply go_no; (case hc => simp [hV, hr, e1, e2, hI, h0]))
    | refine go_exit ?_ | refine next_exit ?_ | refine inb_here ?_ | refine inb_past (by decide) ?_ | refine go_ret ?_ | refine next_ret ?_ | refine inb_ret ?_))
    (apply ends_ok; (case h1 => simp; exact is_rfl); (case h2 => simp; exact is_rfl))
    simp
  have hl := s0_length hr
  have hG := GetR_eq (S.getD 0 []) 6 (by omega) (by omega)
  have hw : word ((S.getD 0 [])[6]'(by omega)) ((S.getD 0 [])[6 + 1]'(by omega)) = swapW S := by
    unfold swapW
    rw [getD_at (l := S.getD 0 []) (i := 6) (by omega), getD_at (l := S.getD 0 []) (i := 7) (by omega)]
  rw [hw] at hG
  have hwr : 0 ≤ swapW S ∧ swapW S ≤ 65535 := by rw [← hw]; exact word_range _ _
  have hS := head_eq S.length (swapW S) (by omega) (by omega)
  have hG' : bodyW DC 137 [.str (S.getD 0 []), .int .i64 6, .int .i64 2] [] = some (.tuple [.int .i64 (swapW S), .int .i64 8, .int .i64 0], []) := hG
  have hk : VolP S B ↔ swapW S ≤ S.length - 32 ∧ S.getD 0 [] = superS S.length (swapW S) := ⟨fun h => ⟨h.2.2.2.1, h.2.2.2.2⟩, fun h => ⟨hr, h1, h0, h.1, h.2⟩⟩
  have hg0 : S[0]? = some (S.getD 0 []) := by rw [List.getElem?_eq_getElem (by omega), getD_at (by omega)]
  have hpos : 0 < S.length := by omega
  have hg1 : S[0]'hpos = S.getD 0 [] := by rw [getD_at hpos]
  have e3 : IntKind.i64.wrap ((S.length : Int) - 32) = S.length - 32 := wrap_id (by omega) (by omega)
  clear hG hw
  generalize swapW S = w at hG' hS hwr hk
  generalize S.getD 0 [] = s0 at hG' hk hg0 hg1
  by_cases hf : w ≤ S.length - 32
  case neg =>
    have hk' : ¬ VolP S B := fun h => hf (hk.1 h).1
    have hf' : (S.length : Int) - 32 < w := by omega
    rw [if_neg hk']
    (refine gives_iff ?_; refine go_func Tryz.f82 rfl rfl (by simp [Tryz.f82]) ?_; dsimp only [codeL, Tryz.f82, scL, sopsL, guardL, dstAt, loopKey])
    (repeat (first
    | (apply is_ok; (case hw => simp [hV, hr, e1, e2, e3, hI, h0, hG', hg0, hg1, hpos, hf, hf']); (case he => simp [hV, hr, e1, e2, e3, hI, h0, hG', hg0, hg1, hpos, hf, hf']; exact is_rfl))
    | (apply op_no; (case hw => simp [hV, hr, e1, e2, e3, hI, h0, hG', hg0, hg1, hpos, hf, hf']))
    | refine op_nil ?_ | refine next_normal ?_ | refine go_seq ?_ | refine go_region ?_ | refine go_skip ?_ | refine go_block ?_ | refine inb_normal ?_
    | (apply go_yes; (case hc => simp [hV, hr, e1, e2, e3, hI, h0, hG', hg0, hg1, hpos, hf, hf'])) | (apply go_no; (case hc => simp [hV, hr, e1, e2, e3, hI, h0, hG', hg0, hg1, hpos, hf, hf']))
    | refine go_exit ?_ | refine next_exit ?_ | refine inb_here ?_ | refine inb_past (by decide) ?_ | refine go_ret ?_ | refine next_ret ?_ | refine inb_ret ?_))
    (apply ends_ok; (case h1 => simp; exact is_rfl); (case h2 => simp; exact is_rfl))
    simp
  have hf' : ¬ (S.length : Int) - 32 < w := by omega
  by_cases hs : s0 = superS S.length w
  · have hk' : VolP S B := hk.2 ⟨hf, hs⟩
    subst hs
    have e4 : IntKind.i64.wrap ((S.length : Int) - w) = S.length - w := wrap_id (by omega) (by omega)
    have e5 : IntKind.i64.wrap ((S.length : Int) - w - 27) = S.length - w - 27 := wrap_id (by omega) (by omega)
    rw [if_pos hk']
    (refine gives_iff ?_; refine go_func Tryz.f82 rfl rfl (by simp [Tryz.f82]) ?_; dsimp only [codeL, Tryz.f82, scL, sopsL, guardL, dstAt, loopKey])
    (repeat (first
    | (apply is_ok; (case hw => simp [hV, hr, e1, e2, e3, e4, e5, hI, h0, hG', hg0, hg1, hpos, hf, hf', hS]); (case he => simp [hV, hr, e1, e2, e3, e4, e5, hI, h0, hG', hg0, hg1, hpos, hf, hf', hS]; exact is_rfl))
    | (apply op_no; (case hw => simp [hV, hr, e1, e2, e3, e4, e5, hI, h0, hG', hg0, hg1, hpos, hf, hf', hS]))
    | refine op_nil ?_ | refine next_normal ?_ | refine go_seq ?_ | refine go_region ?_ | refine go_skip ?_ | refine go_block ?_ | refine inb_normal ?_
    | (apply go_yes; (case hc => simp [hV, hr, e1, e2, e3, e4, e5, hI, h0, hG', hg0, hg1, hpos, hf, hf', hS])) | (apply go_no; (case hc => simp [hV, hr, e1, e2, e3, e4, e5, hI, h0, hG', hg0, hg1, hpos, hf, hf', hS]))
    | refine go_exit ?_ | refine next_exit ?_ | refine inb_here ?_ | refine inb_past (by decide) ?_ | refine go_ret ?_ | refine next_ret ?_ | refine inb_ret ?_))
    (apply ends_ok; (case h1 => simp; exact is_rfl); (case h2 => simp; exact is_rfl))
    simp
  · have hk' : ¬ VolP S B := fun h => hs (hk.1 h).2
    rw [if_neg hk']
    (refine gives_iff ?_; refine go_func Tryz.f82 rfl rfl (by simp [Tryz.f82]) ?_; dsimp only [codeL, Tryz.f82, scL, sopsL, guardL, dstAt, loopKey])
    (repeat (first
    | (apply is_ok; (case hw => simp [hV, hr, e1, e2, e3, hI, h0, hG', hg0, hg1, hpos, hf, hf', hS, hs]); (case he => simp [hV, hr, e1, e2, e3, hI, h0, hG', hg0, hg1, hpos, hf, hf', hS, hs]; exact is_rfl))
    | (apply op_no; (case hw => simp [hV, hr, e1, e2, e3, hI, h0, hG', hg0, hg1, hpos, hf, hf', hS, hs]))
    | refine op_nil ?_ | refine next_normal ?_ | refine go_seq ?_ | refine go_region ?_ | refine go_skip ?_ | refine go_block ?_ | refine inb_normal ?_
    | (apply go_yes; (case hc => simp [hV, hr, e1, e2, e3, hI, h0, hG', hg0, hg1, hpos, hf, hf', hS, hs])) | (apply go_no; (case hc => simp [hV, hr, e1, e2, e3, hI, h0, hG', hg0, hg1, hpos, hf, hf', hS, hs]))
    | refine go_exit ?_ | refine next_exit ?_ | refine inb_here ?_ | refine inb_past (by decide) ?_ | refine go_ret ?_ | refine next_ret ?_ | refine inb_ret ?_))
    (apply ends_ok; (case h1 => simp; exact is_rfl); (case h2 => simp; exact is_rfl))
    simp
end Go.Abs

namespace Go.Abs
open Go.Proofs
set_option maxRecDepth 100000
set_option linter.unusedSimpArgs false
set_option linter.unusedVariables false

/-- The sector of an inode. -/
def secS (S : List (List UInt8)) (B : List Int) (n : Int) : List UInt8 × Int := if VolP S B then if 1 ≤ n ∧ n < 32 then readS S B (19 + n / 4) else ([], 2) else ([], 9)

theorem layV_no {S : List (List UInt8)} {B : List Int} (h : ¬ VolP S B) : layV S B = .tuple [.agg [.int .i64 0, .int .i64 0], .agg [.int .i64 0, .int .i64 0], .int .i64 9] := by unfold layV; rw [if_neg h]
theorem layV_yes {S : List (List UInt8)} {B : List Int} (h : VolP S B) : layV S B = .tuple [.agg [.int .i64 27, .int .i64 (S.length - swapW S - 27)], .agg [.int .i64 (S.length - swapW S), .int .i64 (swapW S)], .int .i64 0] := by unfold layV; rw [if_pos h]

theorem sector_eq (S : List (List UInt8)) (B : List Int) (hB : B.length ≤ maxLen) (n : Int) : bodyW DC 121 [drv S B, .int .i64 n] [] = some (.tuple [.str (secS S B n).1, .int .i64 (secS S B n).2], []) := by
  have hL := Layout_eq S B hB
  unfold secS
  by_cases hv : VolP S B
  case neg =>
    rw [layV_no hv] at hL
    rw [if_neg hv]
    (refine gives_iff ?_; refine go_func Tryz.f121 rfl rfl (by simp [Tryz.f121]) ?_; dsimp only [codeL, Tryz.f121, scL, sopsL, guardL, dstAt, loopKey])
    (repeat (first
    | (apply is_ok; (case hw => simp [hL]); (case he => simp [hL]; exact is_rfl))
    | (apply op_no; (case hw => simp [hL]))
    | refine op_nil ?_ | refine next_normal ?_ | refine go_seq ?_ | refine go_region ?_ | refine go_skip ?_ | refine go_block ?_ | refine inb_normal ?_
    | (apply go_yes; (case hc => simp [hL])) | (apply go_no; (case hc => simp [hL]))
    | refine go_exit ?_ | refine next_exit ?_ | refine inb_here ?_ | refine inb_past (by decide) ?_ | refine go_ret ?_ | refine next_ret ?_ | refine inb_ret ?_))
    (apply ends_ok; (case h1 => simp; exact is_rfl); (case h2 => simp; exact is_rfl))
    simp
  rw [layV_yes hv] at hL
  rw [if_pos hv]
  by_cases h1 : 1 ≤ n
  case neg =>
    have h1' : n < 1 := by omega
    rw [if_neg (fun h => h1 h.1)]
    (refine gives_iff ?_; refine go_func Tryz.f121 rfl rfl (by simp [Tryz.f121]) ?_; dsimp only [codeL, Tryz.f121, scL, sopsL, guardL, dstAt, loopKey])
    (repeat (first
    | (apply is_ok; (case hw => simp [hL, h1, h1']); (case he => simp [hL, h1, h1']; exact is_rfl))
    | (apply op_no; (case hw => simp [hL, h1, h1']))
    | refine op_nil ?_ | refine next_normal ?_ | refine go_seq ?_ | refine go_region ?_ | refine go_skip ?_ | refine go_block ?_ | refine inb_normal ?_
    | (apply go_yes; (case hc => simp [hL, h1, h1'])) | (apply go_no; (case hc => simp [hL, h1, h1']))
    | refine go_exit ?_ | refine next_exit ?_ | refine inb_here ?_ | refine inb_past (by decide) ?_ | refine go_ret ?_ | refine next_ret ?_ | refine inb_ret ?_))
    (apply ends_ok; (case h1 => simp; exact is_rfl); (case h2 => simp; exact is_rfl))
    simp
  have h1' : ¬ n < 1 := by omega
  by_cases h2 : n < 32
  case neg =>
    have h2' : 32 ≤ n := by omega
    rw [if_neg (fun h => h2 h.2)]
    (refine gives_iff ?_; refine go_func Tryz.f121 rfl rfl (by simp [Tryz.f121]) ?_; dsimp only [codeL, Tryz.f121, scL, sopsL, guardL, dstAt, loopKey])
    (repeat (first
    | (apply is_ok; (case hw => simp [hL, h1, h1', h2, h2']); (case he => simp [hL, h1, h1', h2, h2']; exact is_rfl))
    | (apply op_no; (case hw => simp [hL, h1, h1', h2, h2']))
    | refine op_nil ?_ | refine next_normal ?_ | refine go_seq ?_ | refine go_region ?_ | refine go_skip ?_ | refine go_block ?_ | refine inb_normal ?_
    | (apply go_yes; (case hc => simp [hL, h1, h1', h2, h2'])) | (apply go_no; (case hc => simp [hL, h1, h1', h2, h2']))
    | refine go_exit ?_ | refine next_exit ?_ | refine inb_here ?_ | refine inb_past (by decide) ?_ | refine go_ret ?_ | refine next_ret ?_ | refine inb_ret ?_))
    (apply ends_ok; (case h1 => simp; exact is_rfl); (case h2 => simp; exact is_rfl))
    simp
  have h2' : ¬ 32 ≤ n := by omega
  rw [if_pos ⟨h1, h2⟩]
  have hR := Read_eq S B hB (19 + n / 4)
  have f1 : n.tdiv 4 = n / 4 := Int.tdiv_eq_ediv_of_nonneg (by omega)
  have f2 : IntKind.i64.wrap (n / 4) = n / 4 := wrap_id (by omega) (by omega)
  have f3 : IntKind.i64.wrap (19 + n / 4) = 19 + n / 4 := wrap_id (by omega) (by omega)
  generalize n / 4 = d at hR f1 f2 f3
  generalize readS S B (19 + d) = r at hR
  (refine gives_iff ?_; refine go_func Tryz.f121 rfl rfl (by simp [Tryz.f121]) ?_; dsimp only [codeL, Tryz.f121, scL, sopsL, guardL, dstAt, loopKey])
  (repeat (first
    | (apply is_ok; (case hw => simp [hL, h1, h1', h2, h2', hR, f1, f2, f3]); (case he => simp [hL, h1, h1', h2, h2', hR, f1, f2, f3]; exact is_rfl))
    | (apply op_no; (case hw => simp [hL, h1, h1', h2, h2', hR, f1, f2, f3]))
    | refine op_nil ?_ | refine next_normal ?_ | refine go_seq ?_ | refine go_region ?_ | refine go_skip ?_ | refine go_block ?_ | refine inb_normal ?_
    | (apply go_yes; (case hc => simp [hL, h1, h1', h2, h2', hR, f1, f2, f3])) | (apply go_no; (case hc => simp [hL, h1, h1', h2, h2', hR, f1, f2, f3]))
    | refine go_exit ?_ | refine next_exit ?_ | refine inb_here ?_ | refine inb_past (by decide) ?_ | refine go_ret ?_ | refine next_ret ?_ | refine inb_ret ?_))
  (apply ends_ok; (case h1 => simp; exact is_rfl); (case h2 => simp; exact is_rfl))
  simp

theorem sectorR_eq (S : List (List UInt8)) (B : List Int) (hB : B.length ≤ maxLen) (n : Int) : ∃ p, bodyW DC 109 [drv S B, .int .i64 n] [] = some (.tuple [.str (secS S B n).1, .int .i64 p, .int .i64 (secS S B n).2], []) ∧ (VolP S B → 1 ≤ n → n < 32 → p = 19 + n / 4) := by
  have hL := LayoutR_eq S B hB
  unfold secS
  by_cases hv : VolP S B
  case neg =>
    rw [layV_no hv] at hL
    rw [if_neg hv]
    refine ⟨0, ?_, fun h => absurd h hv⟩
    (refine gives_iff ?_; refine go_func Tryz.f109 rfl rfl (by simp [Tryz.f109]) ?_; dsimp only [codeL, Tryz.f109, scL, sopsL, guardL, dstAt, loopKey])
    (repeat (first
    | (apply is_ok; (case hw => simp [hL]); (case he => simp [hL]; exact is_rfl))
    | (apply op_no; (case hw => simp [hL]))
    | refine op_nil ?_ | refine next_normal ?_ | refine go_seq ?_ | refine go_region ?_ | refine go_skip ?_ | refine go_block ?_ | refine inb_normal ?_
    | (apply go_yes; (case hc => simp [hL])) | (apply go_no; (case hc => simp [hL]))
    | refine go_exit ?_ | refine next_exit ?_ | refine inb_here ?_ | refine inb_past (by decide) ?_ | refine go_ret ?_ | refine next_ret ?_ | refine inb_ret ?_))
    (apply ends_ok; (case h1 => simp; exact is_rfl); (case h2 => simp; exact is_rfl))
    simp
  rw [layV_yes hv] at hL
  rw [if_pos hv]
  have hN : bodyW DC 154 [.int .i64 n] [] = some (.bool (decide (1 ≤ n ∧ n < 32)), []) := by
    by_cases h1 : 1 ≤ n
    · (refine gives_iff ?_; refine go_func Tryz.f154 rfl rfl (by simp [Tryz.f154]) ?_; dsimp only [codeL, Tryz.f154, scL, sopsL, guardL, dstAt, loopKey])
      (repeat (first
    | (apply is_ok; (case hw => simp [h1]); (case he => simp [h1]; exact is_rfl))
    | (apply op_no; (case hw => simp [h1]))
    | refine op_nil ?_ | refine next_normal ?_ | refine go_seq ?_ | refine go_region ?_ | refine go_skip ?_ | refine go_block ?_ | refine inb_normal ?_
    | (apply go_yes; (case hc => simp [h1])) | (apply go_no; (case hc => simp [h1]))
    | refine go_exit ?_ | refine next_exit ?_ | refine inb_here ?_ | refine inb_past (by decide) ?_ | refine go_ret ?_ | refine next_ret ?_ | refine inb_ret ?_))
      (apply ends_ok; (case h1 => simp; exact is_rfl); (case h2 => simp; exact is_rfl))
      simp [h1]
    · (refine gives_iff ?_; refine go_func Tryz.f154 rfl rfl (by simp [Tryz.f154]) ?_; dsimp only [codeL, Tryz.f154, scL, sopsL, guardL, dstAt, loopKey])
      (repeat (first
    | (apply is_ok; (case hw => simp [h1]); (case he => simp [h1]; exact is_rfl))
    | (apply op_no; (case hw => simp [h1]))
    | refine op_nil ?_ | refine next_normal ?_ | refine go_seq ?_ | refine go_region ?_ | refine go_skip ?_ | refine go_block ?_ | refine inb_normal ?_
    | (apply go_yes; (case hc => simp [h1])) | (apply go_no; (case hc => simp [h1]))
    | refine go_exit ?_ | refine next_exit ?_ | refine inb_here ?_ | refine inb_past (by decide) ?_ | refine go_ret ?_ | refine next_ret ?_ | refine inb_ret ?_))
      (apply ends_ok; (case h1 => simp; exact is_rfl); (case h2 => simp; exact is_rfl))
      simp [h1]
  by_cases h1 : 1 ≤ n ∧ n < 32
  case neg =>
    rw [if_neg h1]
    rw [decide_eq_false h1] at hN
    refine ⟨0, ?_, fun _ h2 h3 => absurd ⟨h2, h3⟩ h1⟩
    (refine gives_iff ?_; refine go_func Tryz.f109 rfl rfl (by simp [Tryz.f109]) ?_; dsimp only [codeL, Tryz.f109, scL, sopsL, guardL, dstAt, loopKey])
    (repeat (first
    | (apply is_ok; (case hw => simp [hL, hN]); (case he => simp [hL, hN]; exact is_rfl))
    | (apply op_no; (case hw => simp [hL, hN]))
    | refine op_nil ?_ | refine next_normal ?_ | refine go_seq ?_ | refine go_region ?_ | refine go_skip ?_ | refine go_block ?_ | refine inb_normal ?_
    | (apply go_yes; (case hc => simp [hL, hN])) | (apply go_no; (case hc => simp [hL, hN]))
    | refine go_exit ?_ | refine next_exit ?_ | refine inb_here ?_ | refine inb_past (by decide) ?_ | refine go_ret ?_ | refine next_ret ?_ | refine inb_ret ?_))
    (apply ends_ok; (case h1 => simp; exact is_rfl); (case h2 => simp; exact is_rfl))
    simp
  rw [if_pos h1]
  rw [decide_eq_true h1] at hN
  have hR := ReadR_eq S B hB (19 + n / 4)
  have f1 : n.tdiv 4 = n / 4 := Int.tdiv_eq_ediv_of_nonneg (by omega)
  have f2 : IntKind.i64.wrap (n / 4) = n / 4 := wrap_id (by omega) (by omega)
  have f3 : IntKind.i64.wrap (19 + n / 4) = 19 + n / 4 := wrap_id (by omega) (by omega)
  refine ⟨19 + n / 4, ?_, fun _ _ _ => rfl⟩
  generalize n / 4 = d at hR f1 f2 f3
  generalize readS S B (19 + d) = r at hR
  (refine gives_iff ?_; refine go_func Tryz.f109 rfl rfl (by simp [Tryz.f109]) ?_; dsimp only [codeL, Tryz.f109, scL, sopsL, guardL, dstAt, loopKey])
  (repeat (first
    | (apply is_ok; (case hw => simp [hL, hN, hR, f1, f2, f3]); (case he => simp [hL, hN, hR, f1, f2, f3]; exact is_rfl))
    | (apply op_no; (case hw => simp [hL, hN, hR, f1, f2, f3]))
    | refine op_nil ?_ | refine next_normal ?_ | refine go_seq ?_ | refine go_region ?_ | refine go_skip ?_ | refine go_block ?_ | refine inb_normal ?_
    | (apply go_yes; (case hc => simp [hL, hN, hR, f1, f2, f3])) | (apply go_no; (case hc => simp [hL, hN, hR, f1, f2, f3]))
    | refine go_exit ?_ | refine next_exit ?_ | refine inb_here ?_ | refine inb_past (by decide) ?_ | refine go_ret ?_ | refine next_ret ?_ | refine inb_ret ?_))
  (apply ends_ok; (case h1 => simp; exact is_rfl); (case h2 => simp; exact is_rfl))
  simp

theorem sec_ok {S : List (List UInt8)} {B : List Int} {n : Int} (h : (secS S B n).2 = 0) : VolP S B ∧ 1 ≤ n ∧ n < 32 ∧ (secS S B n).1.length = 128 := by
  unfold secS at h ⊢
  by_cases hv : VolP S B
  · rw [if_pos hv] at h ⊢
    by_cases h1 : 1 ≤ n ∧ n < 32
    · rw [if_pos h1] at h ⊢
      have hb := vol_bounds hv
      unfold readS at h ⊢
      rw [if_pos (by omega)] at h ⊢
      by_cases hi : 19 + n / 4 ∈ B
      · rw [if_pos hi] at h; exact absurd h (by simp)
      · rw [if_neg hi]
        have hlt : (19 + n / 4).toNat < S.length := by omega
        exact ⟨hv, h1.1, h1.2, by rw [getD_at hlt]; exact hv.1.2.2.1 _ (List.getElem_mem hlt)⟩
    · rw [if_neg h1] at h; exact absurd h (by simp)
  · rw [if_neg hv] at h; exact absurd h (by simp)

/-- The text of an inode. -/
def inoS (S : List (List UInt8)) (B : List Int) (n : Int) : List UInt8 := ((secS S B n).1.drop (n.toNat % 4 * 32)).take 32
def getV (S : List (List UInt8)) (B : List Int) (n : Int) : V := if (secS S B n).2 = 0 then parseV (inoS S B n) else ino0
def getE (S : List (List UInt8)) (B : List Int) (n : Int) : Int := if (secS S B n).2 = 0 then parseE (inoS S B n) else (secS S B n).2

theorem Get38_eq (S : List (List UInt8)) (B : List Int) (hB : B.length ≤ maxLen) (n : Int) : bodyW DC 62 [drv S B, .int .i64 n] [] = some (.tuple [getV S B n, .int .i64 (getE S B n)], []) := by
  have hS := sector_eq S B hB n
  unfold getV getE
  by_cases he : (secS S B n).2 = 0
  case neg =>
    rw [if_neg he, if_neg he]
    generalize secS S B n = q at hS he
    (refine gives_iff ?_; refine go_func Tryz.f62 rfl rfl (by simp [Tryz.f62]) ?_; dsimp only [codeL, Tryz.f62, scL, sopsL, guardL, dstAt, loopKey])
    (repeat (first
    | (apply is_ok; (case hw => simp [hS, he]); (case he => simp [hS, he]; exact is_rfl))
    | (apply op_no; (case hw => simp [hS, he]))
    | refine op_nil ?_ | refine next_normal ?_ | refine go_seq ?_ | refine go_region ?_ | refine go_skip ?_ | refine go_block ?_ | refine inb_normal ?_
    | (apply go_yes; (case hc => simp [hS, he])) | (apply go_no; (case hc => simp [hS, he]))
    | refine go_exit ?_ | refine next_exit ?_ | refine inb_here ?_ | refine inb_past (by decide) ?_ | refine go_ret ?_ | refine next_ret ?_ | refine inb_ret ?_))
    (apply ends_ok; (case h1 => simp; exact is_rfl); (case h2 => simp; exact is_rfl))
    simp
  obtain ⟨hv, h1, h2, hl⟩ := sec_ok he
  rw [if_pos he, if_pos he]
  have hP := Parse_eq (inoS S B n)
  obtain ⟨k, l, z, a, b, c, d, e, f, g, h, hsh, _⟩ := parseV_shape (inoS S B n)
  rw [hsh] at hP ⊢
  generalize parseE (inoS S B n) = ee at hP ⊢
  unfold inoS at hP
  rw [he] at hS
  generalize (secS S B n).1 = s at hS hl hP
  obtain ⟨m, rfl⟩ : ∃ m : Nat, n = m := ⟨n.toNat, by omega⟩
  have f1 : (m : Int).tmod 4 = ((m % 4 : Nat) : Int) := by rw [Int.tmod_eq_emod_of_nonneg (by omega)]; rfl
  have hr : m % 4 < 4 := Nat.mod_lt _ (by omega)
  rw [Int.toNat_natCast] at hP
  generalize m % 4 = r at f1 hr hP
  have f2 : IntKind.i64.wrap ((r : Int) * 32) = ((r * 32 : Nat) : Int) := by rw [wrap_id (by omega) (by omega)]; omega
  generalize ha : r * 32 = t at f2 hP
  have g1 : t ≤ s.length := by omega
  have g2 : 32 ≤ s.length - t := by omega
  have g3 : s.take 128 = s := List.take_of_length_le (by omega)
  have g4 : (32 : Nat) ≤ 128 - t := by omega
  have g5 : t ≤ 128 := by omega
  (refine gives_iff ?_; refine go_func Tryz.f62 rfl rfl (by simp [Tryz.f62]) ?_; dsimp only [codeL, Tryz.f62, scL, sopsL, guardL, dstAt, loopKey])
  (repeat (first
    | (apply is_ok; (case hw => simp [hS, f1, f2, g1, g2, g3, g4, g5, hl, hP]); (case he => simp [hS, f1, f2, g1, g2, g3, g4, g5, hl, hP]; exact is_rfl))
    | (apply op_no; (case hw => simp [hS, f1, f2, g1, g2, g3, g4, g5, hl, hP]))
    | refine op_nil ?_ | refine next_normal ?_ | refine go_seq ?_ | refine go_region ?_ | refine go_skip ?_ | refine go_block ?_ | refine inb_normal ?_
    | (apply go_yes; (case hc => simp [hS, f1, f2, g1, g2, g3, g4, g5, hl, hP])) | (apply go_no; (case hc => simp [hS, f1, f2, g1, g2, g3, g4, g5, hl, hP]))
    | refine go_exit ?_ | refine next_exit ?_ | refine inb_here ?_ | refine inb_past (by decide) ?_ | refine go_ret ?_ | refine next_ret ?_ | refine inb_ret ?_))
  (apply ends_ok; (case h1 => simp; exact is_rfl); (case h2 => simp; exact is_rfl))
  simp

end Go.Abs

namespace Go.Abs
open Go.Proofs
set_option maxRecDepth 100000
set_option linter.unusedSimpArgs false

theorem putS_length {S : List (List UInt8)} {w : Int × List UInt8} : (putS S w).length = S.length := by simp [putS]

end Go.Abs

namespace Go.Abs
open Go.Proofs
set_option maxRecDepth 100000
set_option linter.unusedSimpArgs false

end Go.Abs

namespace Go.Abs
open Go.Proofs
set_option maxRecDepth 100000
set_option linter.unusedSimpArgs false

def SmallP (l : List (Int × List UInt8)) : Prop := l.length ≤ 60 ∧ ∀ w ∈ l, w.2.length ≤ 200
instance (l : List (Int × List UInt8)) : Decidable (SmallP l) := by unfold SmallP; infer_instance

end Go.Abs

namespace Go.Abs
open Go.Proofs
set_option maxRecDepth 100000
set_option linter.unusedSimpArgs false

end Go.Abs

namespace Go.Abs
open Go.Proofs
set_option maxRecDepth 100000
set_option linter.unusedSimpArgs false
set_option linter.unusedVariables false

theorem Get38R_eq (S : List (List UInt8)) (B : List Int) (hB : B.length ≤ maxLen) (n : Int) : bodyW DC 59 [drv S B, .int .i64 n] [] = some (.tuple [getV S B n, .int .i64 (getE S B n)], []) := by
  obtain ⟨p, hS, hp⟩ := sectorR_eq S B hB n
  unfold getV getE
  by_cases he : (secS S B n).2 = 0
  case neg =>
    rw [if_neg he, if_neg he]
    clear hp
    generalize secS S B n = q at hS he
    (refine gives_iff ?_; refine go_func Tryz.f59 rfl rfl (by simp [Tryz.f59]) ?_; dsimp only [codeL, Tryz.f59, scL, sopsL, guardL, dstAt, loopKey])
    (repeat (first
    | (apply is_ok; (case hw => simp [hS, he]); (case he => simp [hS, he]; exact is_rfl))
    | (apply op_no; (case hw => simp [hS, he]))
    | refine op_nil ?_ | refine next_normal ?_ | refine go_seq ?_ | refine go_region ?_ | refine go_skip ?_ | refine go_block ?_ | refine inb_normal ?_
    | (apply go_yes; (case hc => simp [hS, he])) | (apply go_no; (case hc => simp [hS, he]))
    | refine go_exit ?_ | refine next_exit ?_ | refine inb_here ?_ | refine inb_past (by decide) ?_ | refine go_ret ?_ | refine next_ret ?_ | refine inb_ret ?_))
    (apply ends_ok; (case h1 => simp; exact is_rfl); (case h2 => simp; exact is_rfl))
    simp
  obtain ⟨hv, h1, h2, hl⟩ := sec_ok he
  rw [if_pos he, if_pos he]
  have hP := ParseR_eq (inoS S B n)
  obtain ⟨k, l, z, a, b, c, d, e, f, g, h, hsh, _⟩ := parseV_shape (inoS S B n)
  rw [hsh] at hP ⊢
  generalize parseE (inoS S B n) = ee at hP ⊢
  unfold inoS at hP
  rw [he] at hS
  generalize (secS S B n).1 = s at hS hl hP
  clear hp
  obtain ⟨m, rfl⟩ : ∃ m : Nat, n = m := ⟨n.toNat, by omega⟩
  have f1 : (m : Int).tmod 4 = ((m % 4 : Nat) : Int) := by rw [Int.tmod_eq_emod_of_nonneg (by omega)]; rfl
  have hr : m % 4 < 4 := Nat.mod_lt _ (by omega)
  rw [Int.toNat_natCast] at hP
  generalize m % 4 = r at f1 hr hP
  have f2 : IntKind.i64.wrap ((r : Int) * 32) = ((r * 32 : Nat) : Int) := by rw [wrap_id (by omega) (by omega)]; omega
  generalize ha : r * 32 = t at f2 hP
  have f3 : IntKind.i64.wrap ((t : Int) + 32) = ((t + 32 : Nat) : Int) := wrap_id (by omega) (by omega)
  have g6 : (s.take (t + 32)).drop t = (s.drop t).take 32 := by rw [List.drop_take]; congr 1; omega
  rw [← g6] at hP
  generalize hu : t + 32 = u at f3 hP
  have g1 : t ≤ u := by omega
  have g2 : u ≤ 128 := by omega
  have g3 : u ≤ s.length := by omega
  (refine gives_iff ?_; refine go_func Tryz.f59 rfl rfl (by simp [Tryz.f59]) ?_; dsimp only [codeL, Tryz.f59, scL, sopsL, guardL, dstAt, loopKey])
  (repeat (first
    | (apply is_ok; (case hw => simp [hS, f1, f2, f3, g1, g2, g3, hl, hP]); (case he => simp [hS, f1, f2, f3, g1, g2, g3, hl, hP]; exact is_rfl))
    | (apply op_no; (case hw => simp [hS, f1, f2, f3, g1, g2, g3, hl, hP]))
    | refine op_nil ?_ | refine next_normal ?_ | refine go_seq ?_ | refine go_region ?_ | refine go_skip ?_ | refine go_block ?_ | refine inb_normal ?_
    | (apply go_yes; (case hc => simp [hS, f1, f2, f3, g1, g2, g3, hl, hP])) | (apply go_no; (case hc => simp [hS, f1, f2, f3, g1, g2, g3, hl, hP]))
    | refine go_exit ?_ | refine next_exit ?_ | refine inb_here ?_ | refine inb_past (by decide) ?_ | refine go_ret ?_ | refine next_ret ?_ | refine inb_ret ?_))
  (apply ends_ok; (case h1 => simp; exact is_rfl); (case h2 => simp; exact is_rfl))
  simp

end Go.Abs

