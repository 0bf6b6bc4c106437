/- Proved here: what functions of the program compute, over the evaluator. No condition but those that each theorem states. -/
import Derived.Test.YtefdoccoajhefaaDoorG11
import Derived.Test.YtefdoccoajhefaaDoorG1
namespace Go.Abs
open Go.Proofs
set_option maxRecDepth 100000
set_option linter.unusedSimpArgs false
set_option linter.unusedVariables false

def Good39 (l : List (List UInt8 × Int)) : Prop := l.length ≤ 64 ∧ validB [] l = true
instance (l : List (List UInt8 × Int)) : Decidable (Good39 l) := inferInstanceAs (Decidable (_ ∧ _))
theorem good39_eq (l : List (List UInt8 × Int)) (hl : l.length ≤ maxLen) : bodyW DC 21 [.sl (l.map entV)] [] = some (.bool (decide (Good39 l)), []) := by
  have h := Right_eq l hl
  have hG : decide (Good39 l) = (decide (l.length ≤ 64) && validB [] l) := by
    rw [Bool.eq_iff_iff, decide_eq_true_iff, Bool.and_eq_true, decide_eq_true_iff]
    rfl
  rw [hG]
  generalize validB [] l = b at h
  by_cases h1 : (l.length : Int) ≤ 64
  · have h1' : l.length ≤ 64 := by omega
    (refine gives_iff ?_; refine go_func Tryd.f21 rfl rfl (by simp [Tryd.f21]) ?_; dsimp only [codeL, Tryd.f21, scL, sopsL, guardL, dstAt, loopKey])
    (repeat (first
    | (apply is_ok; (case hw => simp [h, h1]); (case he => simp [h, h1]; exact is_rfl))
    | (apply op_no; (case hw => simp [h, h1]))
    | refine op_nil ?_ | refine next_normal ?_ | refine go_seq ?_ | refine go_region ?_ | refine go_skip ?_ | refine go_block ?_ | refine inb_normal ?_
    | (apply go_yes; (case hc => simp [h, h1])) | (apply go_no; (case hc => simp [h, h1]))
    | refine go_exit ?_ | refine next_exit ?_ | refine inb_here ?_ | refine inb_past (by decide) ?_ | refine go_ret ?_ | refine next_ret ?_ | refine inb_ret ?_))
    (apply ends_ok; (case h1 => simp; exact is_rfl); (case h2 => simp; exact is_rfl))
    simp [h1']
  · have h1' : ¬ l.length ≤ 64 := by omega
    (refine gives_iff ?_; refine go_func Tryd.f21 rfl rfl (by simp [Tryd.f21]) ?_; dsimp only [codeL, Tryd.f21, scL, sopsL, guardL, dstAt, loopKey])
    (repeat (first
    | (apply is_ok; (case hw => simp [h, h1]); (case he => simp [h, h1]; exact is_rfl))
    | (apply op_no; (case hw => simp [h, h1]))
    | refine op_nil ?_ | refine next_normal ?_ | refine go_seq ?_ | refine go_region ?_ | refine go_skip ?_ | refine go_block ?_ | refine inb_normal ?_
    | (apply go_yes; (case hc => simp [h, h1])) | (apply go_no; (case hc => simp [h, h1]))
    | refine go_exit ?_ | refine next_exit ?_ | refine inb_here ?_ | refine inb_past (by decide) ?_ | refine go_ret ?_ | refine next_ret ?_ | refine inb_ret ?_))
    (apply ends_ok; (case h1 => simp; exact is_rfl); (case h2 => simp; exact is_rfl))
    simp [h1']

theorem findV_shape (l : List (List UInt8 × Int)) (s : List UInt8) : ∃ a b, findV l s = .tuple [.int .i64 a, .bool b] := by
  unfold findV
  split <;> exact ⟨_, _, rfl⟩
theorem addR_shape (l : List (List UInt8 × Int)) (s : List UInt8) (n : Int) (k : Nat) (hk : k ≤ l.length) : ∃ (L : List (List UInt8 × Int)) (e : Int), L.length ≤ l.length + 1 ∧ addR l s n k = (.tuple [.own 0 L.length 0 L.length, .int .i64 e], [.dat true 2 (L.map entV)]) := by
  unfold addR
  split
  · refine ⟨l.take k ++ (s, n) :: l.drop k, 0, by simp; omega, ?_⟩
    have : (l.take k ++ (s, n) :: l.drop k).length = l.length + 1 := by simp; omega
    rw [this]
  · exact ⟨[], _, by simp, rfl⟩

theorem L_DirChanges (l : List (List UInt8 × Int)) (hl : l.length ≤ maxLen) (s : List UInt8) (n : Int) : bodyW DC 6 [.sl (l.map entV), .str s, .int .i64 n] [] = some (.bool true, []) := by
  have v1 := few_eq l
  by_cases h1 : Few l
  case neg =>
    rw [decide_eq_false h1] at v1
    by_cases h2 : (40 : Int) < s.length
    · (refine gives_iff ?_; refine go_func Tryd.f6 rfl rfl (by simp [Tryd.f6]) ?_; dsimp only [codeL, Tryd.f6, scL, sopsL, guardL, dstAt, loopKey])
      (repeat (first
    | (apply is_ok; (case hw => simp [v1, h2, alive39_eq]); (case he => simp [v1, h2, alive39_eq]; exact is_rfl))
    | (apply op_no; (case hw => simp [v1, h2, alive39_eq]))
    | refine op_nil ?_ | refine next_normal ?_ | refine go_seq ?_ | refine go_region ?_ | refine go_skip ?_ | refine go_block ?_ | refine inb_normal ?_
    | (apply go_yes; (case hc => simp [v1, h2, alive39_eq])) | (apply go_no; (case hc => simp [v1, h2, alive39_eq]))
    | refine go_exit ?_ | refine next_exit ?_ | refine inb_here ?_ | refine inb_past (by decide) ?_ | refine go_ret ?_ | refine next_ret ?_ | refine inb_ret ?_))
      (apply ends_ok; (case h1 => simp; exact is_rfl); (case h2 => simp; exact is_rfl))
      exact ⟨rfl, rfl⟩
    · (refine gives_iff ?_; refine go_func Tryd.f6 rfl rfl (by simp [Tryd.f6]) ?_; dsimp only [codeL, Tryd.f6, scL, sopsL, guardL, dstAt, loopKey])
      (repeat (first
    | (apply is_ok; (case hw => simp [v1, h2, alive39_eq]); (case he => simp [v1, h2, alive39_eq]; exact is_rfl))
    | (apply op_no; (case hw => simp [v1, h2, alive39_eq]))
    | refine op_nil ?_ | refine next_normal ?_ | refine go_seq ?_ | refine go_region ?_ | refine go_skip ?_ | refine go_block ?_ | refine inb_normal ?_
    | (apply go_yes; (case hc => simp [v1, h2, alive39_eq])) | (apply go_no; (case hc => simp [v1, h2, alive39_eq]))
    | refine go_exit ?_ | refine next_exit ?_ | refine inb_here ?_ | refine inb_past (by decide) ?_ | refine go_ret ?_ | refine next_ret ?_ | refine inb_ret ?_))
      (apply ends_ok; (case h1 => simp; exact is_rfl); (case h2 => simp; exact is_rfl))
      exact ⟨rfl, rfl⟩
  rw [decide_eq_true h1] at v1
  by_cases h2 : (40 : Int) < s.length
  · (refine gives_iff ?_; refine go_func Tryd.f6 rfl rfl (by simp [Tryd.f6]) ?_; dsimp only [codeL, Tryd.f6, scL, sopsL, guardL, dstAt, loopKey])
    (repeat (first
    | (apply is_ok; (case hw => simp [v1, h2, alive39_eq]); (case he => simp [v1, h2, alive39_eq]; exact is_rfl))
    | (apply op_no; (case hw => simp [v1, h2, alive39_eq]))
    | refine op_nil ?_ | refine next_normal ?_ | refine go_seq ?_ | refine go_region ?_ | refine go_skip ?_ | refine go_block ?_ | refine inb_normal ?_
    | (apply go_yes; (case hc => simp [v1, h2, alive39_eq])) | (apply go_no; (case hc => simp [v1, h2, alive39_eq]))
    | refine go_exit ?_ | refine next_exit ?_ | refine inb_here ?_ | refine inb_past (by decide) ?_ | refine go_ret ?_ | refine next_ret ?_ | refine inb_ret ?_))
    (apply ends_ok; (case h1 => simp; exact is_rfl); (case h2 => simp; exact is_rfl))
    exact ⟨rfl, rfl⟩
  have hl70 := h1.1
  have hlm : l.length ≤ 1000000 := by omega
  have v2 := Find_eq l hl s
  have v3 := FindR_eq l hl s
  obtain ⟨a, b, hf⟩ := findV_shape l s
  rw [hf] at v2 v3
  have v4 := good39_eq l hl
  by_cases h3 : Good39 l
  case neg =>
    rw [decide_eq_false h3] at v4
    (refine gives_iff ?_; refine go_func Tryd.f6 rfl rfl (by simp [Tryd.f6]) ?_; dsimp only [codeL, Tryd.f6, scL, sopsL, guardL, dstAt, loopKey])
    (repeat (first
    | (apply is_ok; (case hw => simp [v1, h2, v2, v3, v4, alive39_eq]); (case he => simp [v1, h2, v2, v3, v4, alive39_eq]; exact is_rfl))
    | (apply op_no; (case hw => simp [v1, h2, v2, v3, v4, alive39_eq]))
    | refine op_nil ?_ | refine next_normal ?_ | refine go_seq ?_ | refine go_region ?_ | refine go_skip ?_ | refine go_block ?_ | refine inb_normal ?_
    | (apply go_yes; (case hc => simp [v1, h2, v2, v3, v4, alive39_eq])) | (apply go_no; (case hc => simp [v1, h2, v2, v3, v4, alive39_eq]))
    | refine go_exit ?_ | refine next_exit ?_ | refine inb_here ?_ | refine inb_past (by decide) ?_ | refine go_ret ?_ | refine next_ret ?_ | refine inb_ret ?_))
    (apply ends_ok; (case h1 => simp; exact is_rfl); (case h2 => simp; exact is_rfl))
    exact ⟨rfl, rfl⟩
  rw [decide_eq_true h3] at v4
  obtain ⟨_, hs, _⟩ := validB_sort l [] h3.2
  obtain ⟨k, hk, _⟩ := place_eq l hlm hs s
  have v5 := Add_eq l hlm hs s n k hk
  have v6 := AddR_eq l hlm hs s n k hk
  obtain ⟨L, e, hL, hA⟩ := addR_shape l s n k hk.le
  rw [hA] at v5 v6
  have v7 := Rem_eq l hlm hs s
  have v8 := RemR_eq l hlm s
  have w1 := SameE_refl L (by unfold maxLen; omega)
  clear hA hf
  cases hx : idxE s l with
  | none =>
    rw [remD, hx] at v7
    rw [remR, hx] at v8
    simp only at v7 v8
    have w2 := SameE_refl [] (by simp)
    rw [List.map_nil] at w2
    (refine gives_iff ?_; refine go_func Tryd.f6 rfl rfl (by simp [Tryd.f6]) ?_; dsimp only [codeL, Tryd.f6, scL, sopsL, guardL, dstAt, loopKey])
    (repeat (first
    | (apply is_ok; (case hw => simp [v1, h2, v2, v3, v4, v5, v6, v7, v8, w1, w2, alive39_eq]); (case he => simp [v1, h2, v2, v3, v4, v5, v6, v7, v8, w1, w2, alive39_eq]; exact is_rfl))
    | (apply op_no; (case hw => simp [v1, h2, v2, v3, v4, v5, v6, v7, v8, w1, w2, alive39_eq]))
    | refine op_nil ?_ | refine next_normal ?_ | refine go_seq ?_ | refine go_region ?_ | refine go_skip ?_ | refine go_block ?_ | refine inb_normal ?_
    | (apply go_yes; (case hc => simp [v1, h2, v2, v3, v4, v5, v6, v7, v8, w1, w2, alive39_eq])) | (apply go_no; (case hc => simp [v1, h2, v2, v3, v4, v5, v6, v7, v8, w1, w2, alive39_eq]))
    | refine go_exit ?_ | refine next_exit ?_ | refine inb_here ?_ | refine inb_past (by decide) ?_ | refine go_ret ?_ | refine next_ret ?_ | refine inb_ret ?_))
    (apply ends_ok; (case h1 => simp; exact is_rfl); (case h2 => simp; exact is_rfl))
    exact ⟨rfl, rfl⟩
  | some j =>
    rw [remD, hx] at v7
    rw [remR, hx] at v8
    simp only at v7 v8
    obtain ⟨hj, _⟩ := idxE_lt hx
    have e1 : (l.take j ++ l.drop (j + 1)).length = l.length - 1 := by simp; omega
    have w2 := SameE_refl (l.take j ++ l.drop (j + 1)) (by unfold maxLen; omega)
    generalize l.take j ++ l.drop (j + 1) = M at v7 v8 w2 e1
    rw [← e1] at v7 v8
    have e2 : l.length = M.length + 1 := by omega
    rw [e2] at v7
    have tk : List.take M.length (M.map entV ++ [.agg [.str [], .int .i64 0]]) = M.map entV := List.take_left' (by simp)
    (refine gives_iff ?_; refine go_func Tryd.f6 rfl rfl (by simp [Tryd.f6]) ?_; dsimp only [codeL, Tryd.f6, scL, sopsL, guardL, dstAt, loopKey])
    (repeat (first
    | (apply is_ok; (case hw => simp [v1, h2, v2, v3, v4, v5, v6, v7, v8, w1, w2, tk, alive39_eq]); (case he => simp [v1, h2, v2, v3, v4, v5, v6, v7, v8, w1, w2, tk, alive39_eq]; exact is_rfl))
    | (apply op_no; (case hw => simp [v1, h2, v2, v3, v4, v5, v6, v7, v8, w1, w2, tk, alive39_eq]))
    | refine op_nil ?_ | refine next_normal ?_ | refine go_seq ?_ | refine go_region ?_ | refine go_skip ?_ | refine go_block ?_ | refine inb_normal ?_
    | (apply go_yes; (case hc => simp [v1, h2, v2, v3, v4, v5, v6, v7, v8, w1, w2, tk, alive39_eq])) | (apply go_no; (case hc => simp [v1, h2, v2, v3, v4, v5, v6, v7, v8, w1, w2, tk, alive39_eq]))
    | refine go_exit ?_ | refine next_exit ?_ | refine inb_here ?_ | refine inb_past (by decide) ?_ | refine go_ret ?_ | refine next_ret ?_ | refine inb_ret ?_))
    (apply ends_ok; (case h1 => simp; exact is_rfl); (case h2 => simp; exact is_rfl))
    exact ⟨rfl, rfl⟩
end Go.Abs
