/- Proved here: what functions of the program compute, over the evaluator. No condition but those that each theorem states. -/
import Derived.Test.YtefdoccoajhefaaDoorG7
import Derived.Sort.Walk0
namespace Go.Abs
open Go.Proofs
set_option maxRecDepth 100000
set_option linter.unusedSimpArgs false
set_option linter.unusedVariables false

theorem bl_eq (x y : List UInt8) : Op.bytesLess x y = decide (x < y) := bytesLess_eq x y
theorem bl_le (x y : List UInt8) : (Op.bytesLess x y || x == y) = !Op.bytesLess y x := by
  rw [bl_eq, bl_eq]
  have h : (x < y ∨ x = y) ↔ ¬ y < x := by
    rw [List.not_lt]
    exact List.le_iff_lt_or_eq.symm
  rw [Bool.eq_iff_iff]
  simp only [Bool.or_eq_true, decide_eq_true_eq, beq_iff_eq, Bool.not_eq_true', decide_eq_false_iff_not]
  exact h
theorem bl_irr (x : List UInt8) : Op.bytesLess x x = false := by rw [bl_eq]; simp
theorem bl_trans {x y z : List UInt8} (h : Op.bytesLess x y = true) (k : Op.bytesLess y z = true) : Op.bytesLess x z = true := by
  rw [bl_eq, decide_eq_true_eq] at *
  exact List.lt_trans h k
theorem bl_nil {x : List UInt8} (h : x ≠ []) : Op.bytesLess [] x = true := by
  cases x with
  | nil => exact absurd rfl h
  | cons a l => rfl

/-- Are entries valid, and ascending behind a name? -/
def validB (last : List UInt8) : List (List UInt8 × Int) → Bool
  | [] => true
  | p :: l => entOk p && Op.bytesLess last p.1 && validB p.1 l
def lastN (l : List (List UInt8 × Int)) : Nat → List UInt8
  | 0 => []
  | i + 1 => (l.getD i ([], 0)).1

theorem valid_eq (l : List (List UInt8 × Int)) (hl : l.length ≤ maxLen) : bodyW DC 27 [.sl (l.map entV)] [] = some (.bool (validB [] l && decide (l.length ≤ 64)), []) := by
  generalize hR : validB [] l = R
  (refine gives_iff ?_; refine go_func Tryd.f27 rfl rfl (by simp [Tryd.f27]) ?_; dsimp only [codeL, Tryd.f27, scL, sopsL, guardL, dstAt, loopKey])
  (repeat (first
    | (apply is_ok; (case hw => simp); (case he => simp; exact is_rfl))
    | (apply op_no; (case hw => simp))
    | refine op_nil ?_ | refine next_normal ?_ | refine go_seq ?_ | refine go_region ?_ | refine go_skip ?_ | refine go_block ?_ | refine inb_normal ?_
    | (apply go_yes; (case hc => simp)) | (apply go_no; (case hc => simp))
    | refine go_exit ?_ | refine next_exit ?_ | refine inb_here ?_ | refine inb_past (by decide) ?_ | refine go_ret ?_ | refine next_ret ?_ | refine inb_ret ?_))
  refine go_count l.length (fun i => [(0, .sl (l.map entV)), (3, .str (lastN l i)), (6, .sl (l.map entV)), (7, .int .i64 l.length), (8, .int .i64 i)]) (fun _ => []) (fun i => validB (lastN l i) (l.drop i) = R) (by simp [lastN]) (by simpa [lastN] using hR) fun i hi hI => ?_
  by_cases hlt : i < l.length
  · have g1 : (i : Int) < l.length := by omega
    have g2 : l[i]? = some l[i] := List.getElem?_eq_getElem hlt
    have w1 : IntKind.i64.wrap ((i : Int) + 1) = (i : Int) + 1 := wrap_id (by omega) (by unfold maxLen at hl; omega)
    have v1 := dirValid_eq l[i].1
    have v2 := right_eq l[i].2
    have g3 : lastN l (i + 1) = l[i].1 := by simp [lastN, g2]
    have g4 := bl_le l[i].1 (lastN l i)
    rw [List.drop_eq_getElem_cons hlt, validB, entOk] at hI
    generalize nameOk l[i].1 = b1 at v1 hI
    generalize inoOk l[i].2 = b2 at v2 hI
    generalize lastN l i = lst at hI g4
    cases b1 with
    | false =>
      simp at hI
      subst hI
      (repeat (first
    | (apply is_ok; (case hw => simp [g1, g2, hlt, v1, v2, entV]); (case he => simp [g1, g2, hlt, v1, v2, entV]; exact is_rfl))
    | (apply op_no; (case hw => simp [g1, g2, hlt, v1, v2, entV]))
    | refine op_nil ?_ | refine next_normal ?_ | refine go_seq ?_ | refine go_region ?_ | refine go_skip ?_ | refine go_block ?_ | refine inb_normal ?_
    | (apply go_yes; (case hc => simp [g1, g2, hlt, v1, v2, entV])) | (apply go_no; (case hc => simp [g1, g2, hlt, v1, v2, entV]))
    | refine go_exit ?_ | refine next_exit ?_ | refine inb_here ?_ | refine inb_past (by decide) ?_ | refine go_ret ?_ | refine next_ret ?_ | refine inb_ret ?_))
      (apply ends_ok; (case h1 => simp; exact is_rfl); (case h2 => simp; exact is_rfl))
      simp
    | true =>
    cases b2 with
    | false =>
      simp at hI
      subst hI
      (repeat (first
    | (apply is_ok; (case hw => simp [g1, g2, hlt, v1, v2, entV]); (case he => simp [g1, g2, hlt, v1, v2, entV]; exact is_rfl))
    | (apply op_no; (case hw => simp [g1, g2, hlt, v1, v2, entV]))
    | refine op_nil ?_ | refine next_normal ?_ | refine go_seq ?_ | refine go_region ?_ | refine go_skip ?_ | refine go_block ?_ | refine inb_normal ?_
    | (apply go_yes; (case hc => simp [g1, g2, hlt, v1, v2, entV])) | (apply go_no; (case hc => simp [g1, g2, hlt, v1, v2, entV]))
    | refine go_exit ?_ | refine next_exit ?_ | refine inb_here ?_ | refine inb_past (by decide) ?_ | refine go_ret ?_ | refine next_ret ?_ | refine inb_ret ?_))
      (apply ends_ok; (case h1 => simp; exact is_rfl); (case h2 => simp; exact is_rfl))
      simp
    | true =>
    by_cases hc : Op.bytesLess lst l[i].1 = true
    · rw [hc] at hI g4
      simp only [Bool.not_true] at g4
      (repeat (first
    | (apply is_ok; (case hw => simp [g1, g2, hlt, v1, v2, g4, w1, entV]); (case he => simp [g1, g2, hlt, v1, v2, g4, w1, entV]; exact is_rfl))
    | (apply op_no; (case hw => simp [g1, g2, hlt, v1, v2, g4, w1, entV]))
    | refine op_nil ?_ | refine next_normal ?_ | refine go_seq ?_ | refine go_region ?_ | refine go_skip ?_ | refine go_block ?_ | refine inb_normal ?_
    | (apply go_yes; (case hc => simp [g1, g2, hlt, v1, v2, g4, w1, entV])) | (apply go_no; (case hc => simp [g1, g2, hlt, v1, v2, g4, w1, entV]))
    | refine go_exit ?_ | refine next_exit ?_ | refine inb_here ?_ | refine inb_past (by decide) ?_ | refine go_ret ?_ | refine next_ret ?_ | refine inb_ret ?_))
      exact ⟨hlt, by simp [w1, entV, g3], by rw [g3]; simpa using hI⟩
    · rw [show Op.bytesLess lst l[i].1 = false by simpa using hc] at hI g4
      simp only [Bool.not_false] at g4
      simp at hI
      subst hI
      (repeat (first
    | (apply is_ok; (case hw => simp [g1, g2, hlt, v1, v2, g4, entV]); (case he => simp [g1, g2, hlt, v1, v2, g4, entV]; exact is_rfl))
    | (apply op_no; (case hw => simp [g1, g2, hlt, v1, v2, g4, entV]))
    | refine op_nil ?_ | refine next_normal ?_ | refine go_seq ?_ | refine go_region ?_ | refine go_skip ?_ | refine go_block ?_ | refine inb_normal ?_
    | (apply go_yes; (case hc => simp [g1, g2, hlt, v1, v2, g4, entV])) | (apply go_no; (case hc => simp [g1, g2, hlt, v1, v2, g4, entV]))
    | refine go_exit ?_ | refine next_exit ?_ | refine inb_here ?_ | refine inb_past (by decide) ?_ | refine go_ret ?_ | refine next_ret ?_ | refine inb_ret ?_))
      (apply ends_ok; (case h1 => simp; exact is_rfl); (case h2 => simp; exact is_rfl))
      simp
  · have g1 : ¬ (i : Int) < l.length := by omega
    rw [List.drop_eq_nil_of_le (by omega), validB] at hI
    subst hI
    (repeat (first
    | (apply is_ok; (case hw => simp [g1]); (case he => simp [g1]; exact is_rfl))
    | (apply op_no; (case hw => simp [g1]))
    | refine op_nil ?_ | refine next_normal ?_ | refine go_seq ?_ | refine go_region ?_ | refine go_skip ?_ | refine go_block ?_ | refine inb_normal ?_
    | (apply go_yes; (case hc => simp [g1])) | (apply go_no; (case hc => simp [g1]))
    | refine go_exit ?_ | refine next_exit ?_ | refine inb_here ?_ | refine inb_past (by decide) ?_ | refine go_ret ?_ | refine next_ret ?_ | refine inb_ret ?_))
    (apply ends_ok; (case h1 => simp; exact is_rfl); (case h2 => simp; exact is_rfl))
    simp
    omega

theorem entOk_ne {p : List UInt8 × Int} (h : entOk p = true) : p.1 ≠ [] := fun h0 => by
  rw [entOk, h0] at h
  simp [nameOk] at h

theorem Right_eq (l : List (List UInt8 × Int)) (hl : l.length ≤ maxLen) : bodyW DC 32 [.sl (l.map entV)] [] = some (.bool (validB [] l), []) := by
  generalize hR : validB [] l = R
  (refine gives_iff ?_; refine go_func Tryd.f32 rfl rfl (by simp [Tryd.f32]) ?_; dsimp only [codeL, Tryd.f32, scL, sopsL, guardL, dstAt, loopKey])
  (repeat (first
    | (apply is_ok; (case hw => simp); (case he => simp; exact is_rfl))
    | (apply op_no; (case hw => simp))
    | refine op_nil ?_ | refine next_normal ?_ | refine go_seq ?_ | refine go_region ?_ | refine go_skip ?_ | refine go_block ?_ | refine inb_normal ?_
    | (apply go_yes; (case hc => simp)) | (apply go_no; (case hc => simp))
    | refine go_exit ?_ | refine next_exit ?_ | refine inb_here ?_ | refine inb_past (by decide) ?_ | refine go_ret ?_ | refine next_ret ?_ | refine inb_ret ?_))
  refine go_count l.length (fun i => [(0, .sl (l.map entV)), (3, .int .i64 i)]) (fun _ => []) (fun i => validB (lastN l i) (l.drop i) = R) (by simp) (by simpa [lastN] using hR) fun i hi hI => ?_
  by_cases hlt : i < l.length
  · have g1 : (i : Int) < l.length := by omega
    have g2 : l[i]? = some l[i] := List.getElem?_eq_getElem hlt
    have w1 : IntKind.i64.wrap ((i : Int) + 1) = (i : Int) + 1 := wrap_id (by omega) (by unfold maxLen at hl; omega)
    have v1 := entry_eq l[i]
    rw [entV] at v1
    have g3 : lastN l (i + 1) = l[i].1 := by simp [lastN, g2]
    rw [List.drop_eq_getElem_cons hlt, validB] at hI
    cases hb : entOk l[i] with
    | false =>
      rw [hb] at v1 hI
      simp at hI
      subst hI
      by_cases h0 : (0 : Int) < i
      · have w2 : IntKind.i64.wrap ((i : Int) - 1) = ((i - 1 : Nat) : Int) := by rw [wrap_id (by omega) (by unfold maxLen at hl; omega)]; omega
        have g5 : l[i - 1]? = some l[i - 1] := List.getElem?_eq_getElem (by omega)
        (repeat (first
    | (apply is_ok; (case hw => simp [g1, g2, hlt, v1, entV, w2, h0, g5]); (case he => simp [g1, g2, hlt, v1, entV, w2, h0, g5]; exact is_rfl))
    | (apply op_no; (case hw => simp [g1, g2, hlt, v1, entV, w2, h0, g5]))
    | refine op_nil ?_ | refine next_normal ?_ | refine go_seq ?_ | refine go_region ?_ | refine go_skip ?_ | refine go_block ?_ | refine inb_normal ?_
    | (apply go_yes; (case hc => simp [g1, g2, hlt, v1, entV, w2, h0, g5])) | (apply go_no; (case hc => simp [g1, g2, hlt, v1, entV, w2, h0, g5]))
    | refine go_exit ?_ | refine next_exit ?_ | refine inb_here ?_ | refine inb_past (by decide) ?_ | refine go_ret ?_ | refine next_ret ?_ | refine inb_ret ?_))
        (apply ends_ok; (case h1 => simp; exact is_rfl); (case h2 => simp; exact is_rfl))
        simp
      · (repeat (first
    | (apply is_ok; (case hw => simp [g1, g2, hlt, v1, entV, h0]); (case he => simp [g1, g2, hlt, v1, entV, h0]; exact is_rfl))
    | (apply op_no; (case hw => simp [g1, g2, hlt, v1, entV, h0]))
    | refine op_nil ?_ | refine next_normal ?_ | refine go_seq ?_ | refine go_region ?_ | refine go_skip ?_ | refine go_block ?_ | refine inb_normal ?_
    | (apply go_yes; (case hc => simp [g1, g2, hlt, v1, entV, h0])) | (apply go_no; (case hc => simp [g1, g2, hlt, v1, entV, h0]))
    | refine go_exit ?_ | refine next_exit ?_ | refine inb_here ?_ | refine inb_past (by decide) ?_ | refine go_ret ?_ | refine next_ret ?_ | refine inb_ret ?_))
        (apply ends_ok; (case h1 => simp; exact is_rfl); (case h2 => simp; exact is_rfl))
        simp
    | true =>
      have hne := entOk_ne hb
      rw [hb] at v1 hI
      rw [Bool.true_and] at hI
      by_cases h0 : (0 : Int) < i
      · have w2 : IntKind.i64.wrap ((i : Int) - 1) = ((i - 1 : Nat) : Int) := by rw [wrap_id (by omega) (by unfold maxLen at hl; omega)]; omega
        have g5 : l[i - 1]? = some l[i - 1] := List.getElem?_eq_getElem (by omega)
        have g6 : ((i - 1 : Nat) : Int) < l.length := by omega
        have g7 : i - 1 < l.length := by omega
        have g8 : lastN l i = l[i - 1].1 := by
          obtain ⟨j, rfl⟩ : ∃ j, i = j + 1 := ⟨i - 1, by omega⟩
          simp [lastN, show l[j]? = some l[j] from List.getElem?_eq_getElem (by omega)]
        rw [g8] at hI
        have h0' : 0 < i := by omega
        cases hc : Op.bytesLess l[i - 1].1 l[i].1 with
        | true =>
          rw [hc, Bool.true_and] at hI
          (repeat (first
    | (apply is_ok; (case hw => simp [g1, g2, hlt, v1, entV, w1, w2, h0', g5, g6, g7, hc]); (case he => simp [g1, g2, hlt, v1, entV, w1, w2, h0', g5, g6, g7, hc]; exact is_rfl))
    | (apply op_no; (case hw => simp [g1, g2, hlt, v1, entV, w1, w2, h0', g5, g6, g7, hc]))
    | refine op_nil ?_ | refine next_normal ?_ | refine go_seq ?_ | refine go_region ?_ | refine go_skip ?_ | refine go_block ?_ | refine inb_normal ?_
    | (apply go_yes; (case hc => simp [g1, g2, hlt, v1, entV, w1, w2, h0', g5, g6, g7, hc])) | (apply go_no; (case hc => simp [g1, g2, hlt, v1, entV, w1, w2, h0', g5, g6, g7, hc]))
    | refine go_exit ?_ | refine next_exit ?_ | refine inb_here ?_ | refine inb_past (by decide) ?_ | refine go_ret ?_ | refine next_ret ?_ | refine inb_ret ?_))
          exact ⟨hlt, by simp [w1, entV, g3], by rw [g3]; exact hI⟩
        | false =>
          rw [hc, Bool.false_and] at hI
          subst hI
          (repeat (first
    | (apply is_ok; (case hw => simp [g1, g2, hlt, v1, entV, w1, w2, h0', g5, g6, g7, hc]); (case he => simp [g1, g2, hlt, v1, entV, w1, w2, h0', g5, g6, g7, hc]; exact is_rfl))
    | (apply op_no; (case hw => simp [g1, g2, hlt, v1, entV, w1, w2, h0', g5, g6, g7, hc]))
    | refine op_nil ?_ | refine next_normal ?_ | refine go_seq ?_ | refine go_region ?_ | refine go_skip ?_ | refine go_block ?_ | refine inb_normal ?_
    | (apply go_yes; (case hc => simp [g1, g2, hlt, v1, entV, w1, w2, h0', g5, g6, g7, hc])) | (apply go_no; (case hc => simp [g1, g2, hlt, v1, entV, w1, w2, h0', g5, g6, g7, hc]))
    | refine go_exit ?_ | refine next_exit ?_ | refine inb_here ?_ | refine inb_past (by decide) ?_ | refine go_ret ?_ | refine next_ret ?_ | refine inb_ret ?_))
          (apply ends_ok; (case h1 => simp; exact is_rfl); (case h2 => simp; exact is_rfl))
          simp
      · have : i = 0 := by omega
        subst this
        rw [show lastN l 0 = [] from rfl, bl_nil hne, Bool.true_and] at hI
        (repeat (first
    | (apply is_ok; (case hw => simp [g1, g2, hlt, v1, entV, w1]); (case he => simp [g1, g2, hlt, v1, entV, w1]; exact is_rfl))
    | (apply op_no; (case hw => simp [g1, g2, hlt, v1, entV, w1]))
    | refine op_nil ?_ | refine next_normal ?_ | refine go_seq ?_ | refine go_region ?_ | refine go_skip ?_ | refine go_block ?_ | refine inb_normal ?_
    | (apply go_yes; (case hc => simp [g1, g2, hlt, v1, entV, w1])) | (apply go_no; (case hc => simp [g1, g2, hlt, v1, entV, w1]))
    | refine go_exit ?_ | refine next_exit ?_ | refine inb_here ?_ | refine inb_past (by decide) ?_ | refine go_ret ?_ | refine next_ret ?_ | refine inb_ret ?_))
        exact ⟨hlt, by simp [w1, entV, g3], by rw [g3]; exact hI⟩
  · have g1 : ¬ (i : Int) < l.length := by omega
    rw [List.drop_eq_nil_of_le (by omega), validB] at hI
    subst hI
    (repeat (first
    | (apply is_ok; (case hw => simp [g1]); (case he => simp [g1]; exact is_rfl))
    | (apply op_no; (case hw => simp [g1]))
    | refine op_nil ?_ | refine next_normal ?_ | refine go_seq ?_ | refine go_region ?_ | refine go_skip ?_ | refine go_block ?_ | refine inb_normal ?_
    | (apply go_yes; (case hc => simp [g1])) | (apply go_no; (case hc => simp [g1]))
    | refine go_exit ?_ | refine next_exit ?_ | refine inb_here ?_ | refine inb_past (by decide) ?_ | refine go_ret ?_ | refine next_ret ?_ | refine inb_ret ?_))
    (apply ends_ok; (case h1 => simp; exact is_rfl); (case h2 => simp; exact is_rfl))
    simp
end Go.Abs
