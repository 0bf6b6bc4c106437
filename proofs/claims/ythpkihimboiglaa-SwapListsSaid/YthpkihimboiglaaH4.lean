/- Proved here: what functions of the program compute, over the evaluator. No condition but those that each theorem states. -/
import Derived.Test.YthpkihimboiglaaH3
namespace Go.Abs
open Go.Proofs
set_option maxRecDepth 100000
set_option linter.unusedSimpArgs false
set_option linter.unusedVariables false

theorem meetP_comm (a b : Ex) : meetP a b ↔ meetP b a := by unfold meetP; constructor <;> (rintro ⟨h1, h2, h3, h4⟩; exact ⟨h2, h1, h4, h3⟩)

theorem freeR_eq (l : List Ex) (hl : l.length ≤ 1000) (hb : ∀ y ∈ l, BigP y) (w : Ex) (hw : BigP w) (n k : Int) (hn : 0 ≤ n ∧ n ≤ 4000000) (hk : 0 < k ∧ k ≤ 4000000) :
    bodyW DC 36 [.sl (l.map exV), .agg [.int .i64 w.1, .int .i64 w.2], .agg [.int .i64 n, .int .i64 k]] [] = some (.bool (decide (roomP l w k n)), []) := by
  have hx : BigP (n, k) := ⟨hn.1, hn.2, by omega, hk.2⟩
  (refine gives_iff ?_; refine go_func Try.f36 rfl rfl (by simp [Try.f36]) ?_; dsimp only [codeL, Try.f36, scL, sopsL, guardL, dstAt, loopKey])
  (repeat (first
    | (apply is_ok; (case hw => simp); (case he => simp; exact is_rfl))
    | (apply op_no; (case hw => simp))
    | refine op_nil ?_ | refine next_normal ?_ | refine go_seq ?_ | refine go_region ?_ | refine go_skip ?_ | refine go_block ?_ | refine inb_normal ?_
    | (apply go_yes; (case hc => simp)) | (apply go_no; (case hc => simp))
    | refine go_exit ?_ | refine next_exit ?_ | refine inb_here ?_ | refine inb_past (by decide) ?_ | refine go_ret ?_ | refine next_ret ?_ | refine inb_ret ?_))
  refine go_count l.length (fun i => [(0, .sl (l.map exV)), (4, .ptr 0 1 0 0), (5, .ptr 1 1 0 0), (7, .int .i64 i)]) (fun _ => [.box (.agg [.int .i64 w.1, .int .i64 w.2]), .box (.agg [.int .i64 n, .int .i64 k])]) (fun i => ∀ j (h : j < l.length), j < i → ¬ meetP (n, k) l[j]) (by simp) (fun j _ h => absurd h (Nat.not_lt_zero j)) fun i hi hI => ?_
  by_cases hlt : i < l.length
  · have g1 : (i : Int) < l.length := by omega
    have g2 : l[i]? = some l[i] := List.getElem?_eq_getElem hlt
    have w1 : IntKind.i64.wrap ((i : Int) + 1) = (i : Int) + 1 := wrap_id (by omega) (by omega)
    have v1 := Meet_eq l[i] (n, k) (hb _ (List.getElem_mem hlt)) hx
    by_cases hm : meetP (n, k) l[i]
    · rw [decide_eq_true ((meetP_comm _ _).1 hm)] at v1
      have hf : ¬ roomP l w k n := fun h => h.1 _ (List.getElem_mem hlt) hm
      rw [decide_eq_false hf]
      simp only at v1
      (repeat (first
    | (apply is_ok; (case hw => simp [g1, g2, hlt, v1, exV]); (case he => simp [g1, g2, hlt, v1, exV]; exact is_rfl))
    | (apply op_no; (case hw => simp [g1, g2, hlt, v1, exV]))
    | refine op_nil ?_ | refine next_normal ?_ | refine go_seq ?_ | refine go_region ?_ | refine go_skip ?_ | refine go_block ?_ | refine inb_normal ?_
    | (apply go_yes; (case hc => simp [g1, g2, hlt, v1, exV])) | (apply go_no; (case hc => simp [g1, g2, hlt, v1, exV]))
    | refine go_exit ?_ | refine next_exit ?_ | refine inb_here ?_ | refine inb_past (by decide) ?_ | refine go_ret ?_ | refine next_ret ?_ | refine inb_ret ?_))
      (apply ends_ok; (case h1 => simp; exact is_rfl); (case h2 => simp; exact is_rfl))
      simp
    · rw [decide_eq_false (fun h => hm ((meetP_comm _ _).1 h))] at v1
      simp only at v1
      (repeat (first
    | (apply is_ok; (case hw => simp [g1, g2, hlt, v1, w1, exV]); (case he => simp [g1, g2, hlt, v1, w1, exV]; exact is_rfl))
    | (apply op_no; (case hw => simp [g1, g2, hlt, v1, w1, exV]))
    | refine op_nil ?_ | refine next_normal ?_ | refine go_seq ?_ | refine go_region ?_ | refine go_skip ?_ | refine go_block ?_ | refine inb_normal ?_
    | (apply go_yes; (case hc => simp [g1, g2, hlt, v1, w1, exV])) | (apply go_no; (case hc => simp [g1, g2, hlt, v1, w1, exV]))
    | refine go_exit ?_ | refine next_exit ?_ | refine inb_here ?_ | refine inb_past (by decide) ?_ | refine go_ret ?_ | refine next_ret ?_ | refine inb_ret ?_))
      exact ⟨hlt, by simp [exV, w1], fun j h hj => by
        rcases Nat.lt_or_ge j i with h1 | h1
        · exact hI j h h1
        · have : j = i := by omega
          subst this
          exact hm⟩
  · have g1 : ¬ (i : Int) < l.length := by omega
    have v2 := Within_eq (n, k) w ⟨hn.1, hn.2, hk.1, hk.2⟩ hw
    have hf : decide (roomP l w k n) = decide (w.1 ≤ n ∧ n + k ≤ w.1 + w.2) := by
      apply decide_eq_decide.2
      constructor
      · exact fun h => h.2
      · refine fun h => ⟨fun y hy => ?_, h⟩
        obtain ⟨j, hj, rfl⟩ := List.mem_iff_getElem.1 hy
        exact hI j hj (by omega)
    rw [hf]
    simp only at v2
    generalize decide (w.1 ≤ n ∧ n + k ≤ w.1 + w.2) = b at v2
    (repeat (first
    | (apply is_ok; (case hw => simp [g1, v2]); (case he => simp [g1, v2]; exact is_rfl))
    | (apply op_no; (case hw => simp [g1, v2]))
    | refine op_nil ?_ | refine next_normal ?_ | refine go_seq ?_ | refine go_region ?_ | refine go_skip ?_ | refine go_block ?_ | refine inb_normal ?_
    | (apply go_yes; (case hc => simp [g1, v2])) | (apply go_no; (case hc => simp [g1, v2]))
    | refine go_exit ?_ | refine next_exit ?_ | refine inb_here ?_ | refine inb_past (by decide) ?_ | refine go_ret ?_ | refine next_ret ?_ | refine inb_ret ?_))
    (apply ends_ok; (case h1 => simp; exact is_rfl); (case h2 => simp; exact is_rfl))
    simp

/-- All places that the reference looks at. -/
def allC (l : List Ex) (w : Ex) : List Int := w.1 :: l.map fun y => y.1 + y.2
def bestS (l : List Ex) (w : Ex) (k : Int) (b n : Int) : Int := if roomP l w k n ∧ (b < 0 ∨ n < b) then n else b
def bestF (l : List Ex) (w : Ex) (k : Int) (cs : List Int) : Int := cs.foldl (bestS l w k) (-1)
theorem bestF_snoc (l : List Ex) (w : Ex) (k : Int) (cs : List Int) (n : Int) : bestF l w k (cs ++ [n]) = bestS l w k (bestF l w k cs) n := by simp [bestF]

theorem FitR_eq (l : List Ex) (hl : l.length ≤ 100) (hb : ∀ y ∈ l, UsuP y) (w : Ex) (hw : UsuP w) (k : Int) : bodyW DC 11 [.sl (l.map exV), .agg [.int .i64 w.1, .int .i64 w.2], .int .i64 k] [] =
    some (if k < 1 ∨ 1048576 < k then .tuple [.int .i64 0, .bool false] else if bestF l w k (allC l w) < 0 then .tuple [.int .i64 0, .bool false] else .tuple [.int .i64 (bestF l w k (allC l w)), .bool true], []) := by
  by_cases h1 : k < 1
  · rw [if_pos (.inl h1)]
    (refine gives_iff ?_; refine go_func Try.f11 rfl rfl (by simp [Try.f11]) ?_; dsimp only [codeL, Try.f11, scL, sopsL, guardL, dstAt, loopKey])
    (repeat (first
    | (apply is_ok; (case hw => simp [h1]); (case he => simp [h1]; exact is_rfl))
    | (apply op_no; (case hw => simp [h1]))
    | refine op_nil ?_ | refine next_normal ?_ | refine go_seq ?_ | refine go_region ?_ | refine go_skip ?_ | refine go_block ?_ | refine inb_normal ?_
    | (apply go_yes; (case hc => simp [h1])) | (apply go_no; (case hc => simp [h1]))
    | refine go_exit ?_ | refine next_exit ?_ | refine inb_here ?_ | refine inb_past (by decide) ?_ | refine go_ret ?_ | refine next_ret ?_ | refine inb_ret ?_))
    (apply ends_ok; (case h1 => simp; exact is_rfl); (case h2 => simp; exact is_rfl))
    simp
  by_cases h2 : 1048576 < k
  · rw [if_pos (.inr h2)]
    (refine gives_iff ?_; refine go_func Try.f11 rfl rfl (by simp [Try.f11]) ?_; dsimp only [codeL, Try.f11, scL, sopsL, guardL, dstAt, loopKey])
    (repeat (first
    | (apply is_ok; (case hw => simp [h1, h2]); (case he => simp [h1, h2]; exact is_rfl))
    | (apply op_no; (case hw => simp [h1, h2]))
    | refine op_nil ?_ | refine next_normal ?_ | refine go_seq ?_ | refine go_region ?_ | refine go_skip ?_ | refine go_block ?_ | refine inb_normal ?_
    | (apply go_yes; (case hc => simp [h1, h2])) | (apply go_no; (case hc => simp [h1, h2]))
    | refine go_exit ?_ | refine next_exit ?_ | refine inb_here ?_ | refine inb_past (by decide) ?_ | refine go_ret ?_ | refine next_ret ?_ | refine inb_ret ?_))
    (apply ends_ok; (case h1 => simp; exact is_rfl); (case h2 => simp; exact is_rfl))
    simp
  rw [if_neg (by omega)]
  have hB : ∀ y ∈ l, BigP y := fun y hy => by obtain ⟨a, b, c, d⟩ := hb y hy; exact ⟨a, by omega, c, by omega⟩
  have hW : BigP w := by obtain ⟨a, b, c, d⟩ := hw; exact ⟨a, by omega, c, by omega⟩
  generalize hR : bestF l w k (allC l w) = R
  (refine gives_iff ?_; refine go_func Try.f11 rfl rfl (by simp [Try.f11]) ?_; dsimp only [codeL, Try.f11, scL, sopsL, guardL, dstAt, loopKey])
  (repeat (first
    | (apply is_ok; (case hw => simp [h1, h2]); (case he => simp [h1, h2]; exact is_rfl))
    | (apply op_no; (case hw => simp [h1, h2]))
    | refine op_nil ?_ | refine next_normal ?_ | refine go_seq ?_ | refine go_region ?_ | refine go_skip ?_ | refine go_block ?_ | refine inb_normal ?_
    | (apply go_yes; (case hc => simp [h1, h2])) | (apply go_no; (case hc => simp [h1, h2]))
    | refine go_exit ?_ | refine next_exit ?_ | refine inb_here ?_ | refine inb_past (by decide) ?_ | refine go_ret ?_ | refine next_ret ?_ | refine inb_ret ?_))
  refine go_count (l.length + 1) (fun i => [(0, .sl (l.map exV)), (2, .int .i64 k), (4, .ptr 0 1 0 0), (8, .int .i64 (bestF l w k ((allC l w).take i))), (9, .int .i64 ((i : Int) - 1))]) (fun _ => [.box (.agg [.int .i64 w.1, .int .i64 w.2])]) (fun i => True) (by simp [bestF]) trivial fun i hi _ => ?_
  have hlen : (allC l w).length = l.length + 1 := by simp [allC]
  by_cases hlt : i < l.length + 1
  · have g1 : (i : Int) - 1 < l.length := by omega
    have w1 : IntKind.i64.wrap ((i : Int) - 1 + 1) = (i : Int) := by rw [wrap_id (by omega) (by omega)]; omega
    have hs : bestF l w k ((allC l w).take (i + 1)) = bestS l w k (bestF l w k ((allC l w).take i)) ((allC l w)[i]'(by omega)) := by
      rw [List.take_succ_eq_append_getElem (by omega), bestF_snoc]
    rw [hs]
    generalize bestF l w k ((allC l w).take i) = B
    cases i with
    | zero =>
      have e0 : (allC l w)[0]'(by omega) = w.1 := rfl
      rw [e0]
      have hn : 0 ≤ w.1 ∧ w.1 ≤ 4000000 := ⟨hW.1, hW.2.1⟩
      have e1 : ¬ ((l.length : Int) ≤ -1) := by omega
      have e2 : (-1 : Int) < l.length := by omega
      by_cases c1 : w.1 ≤ w.1
      · have v := freeR_eq l (by omega) hB w hW w.1 k hn ⟨by omega, by omega⟩
        by_cases c2 : roomP l w k w.1
        · rw [decide_eq_true c2] at v
          by_cases c3 : B < 0
          · rw [show bestS l w k B w.1 = w.1 from if_pos ⟨c2, .inl c3⟩]
            (repeat (first
    | (apply is_ok; (case hw => simp [e2, w1, c3, v]); (case he => simp [e2, w1, c3, v]; exact is_rfl))
    | (apply op_no; (case hw => simp [e2, w1, c3, v]))
    | refine op_nil ?_ | refine next_normal ?_ | refine go_seq ?_ | refine go_region ?_ | refine go_skip ?_ | refine go_block ?_ | refine inb_normal ?_
    | (apply go_yes; (case hc => simp [e2, w1, c3, v])) | (apply go_no; (case hc => simp [e2, w1, c3, v]))
    | refine go_exit ?_ | refine next_exit ?_ | refine inb_here ?_ | refine inb_past (by decide) ?_ | refine go_ret ?_ | refine next_ret ?_ | refine inb_ret ?_))
            exact ⟨hlt, by simp [exV, w1], trivial⟩
          · by_cases c4 : w.1 < B
            · rw [show bestS l w k B w.1 = w.1 from if_pos ⟨c2, .inr c4⟩]
              (repeat (first
    | (apply is_ok; (case hw => simp [e2, w1, c3, c4, v]); (case he => simp [e2, w1, c3, c4, v]; exact is_rfl))
    | (apply op_no; (case hw => simp [e2, w1, c3, c4, v]))
    | refine op_nil ?_ | refine next_normal ?_ | refine go_seq ?_ | refine go_region ?_ | refine go_skip ?_ | refine go_block ?_ | refine inb_normal ?_
    | (apply go_yes; (case hc => simp [e2, w1, c3, c4, v])) | (apply go_no; (case hc => simp [e2, w1, c3, c4, v]))
    | refine go_exit ?_ | refine next_exit ?_ | refine inb_here ?_ | refine inb_past (by decide) ?_ | refine go_ret ?_ | refine next_ret ?_ | refine inb_ret ?_))
              exact ⟨hlt, by simp [exV, w1], trivial⟩
            · rw [show bestS l w k B w.1 = B from if_neg (fun h => h.2.elim c3 c4)]
              (repeat (first
    | (apply is_ok; (case hw => simp [e2, w1, c3, c4, v]); (case he => simp [e2, w1, c3, c4, v]; exact is_rfl))
    | (apply op_no; (case hw => simp [e2, w1, c3, c4, v]))
    | refine op_nil ?_ | refine next_normal ?_ | refine go_seq ?_ | refine go_region ?_ | refine go_skip ?_ | refine go_block ?_ | refine inb_normal ?_
    | (apply go_yes; (case hc => simp [e2, w1, c3, c4, v])) | (apply go_no; (case hc => simp [e2, w1, c3, c4, v]))
    | refine go_exit ?_ | refine next_exit ?_ | refine inb_here ?_ | refine inb_past (by decide) ?_ | refine go_ret ?_ | refine next_ret ?_ | refine inb_ret ?_))
              exact ⟨hlt, by simp [exV, w1], trivial⟩
        · rw [decide_eq_false c2] at v
          rw [show bestS l w k B w.1 = B from if_neg (fun h => c2 h.1)]
          (repeat (first
    | (apply is_ok; (case hw => simp [e2, w1, v]); (case he => simp [e2, w1, v]; exact is_rfl))
    | (apply op_no; (case hw => simp [e2, w1, v]))
    | refine op_nil ?_ | refine next_normal ?_ | refine go_seq ?_ | refine go_region ?_ | refine go_skip ?_ | refine go_block ?_ | refine inb_normal ?_
    | (apply go_yes; (case hc => simp [e2, w1, v])) | (apply go_no; (case hc => simp [e2, w1, v]))
    | refine go_exit ?_ | refine next_exit ?_ | refine inb_here ?_ | refine inb_past (by decide) ?_ | refine go_ret ?_ | refine next_ret ?_ | refine inb_ret ?_))
          exact ⟨hlt, by simp [exV, w1], trivial⟩
      · exact absurd (Int.le_refl _) c1
    | succ j =>
      have hj : j < l.length := by omega
      have e0 : (allC l w)[j + 1]'(by omega) = l[j].1 + l[j].2 := by simp [allC]
      rw [e0]
      obtain ⟨a1, a2, a3, a4⟩ := hb l[j] (List.getElem_mem hj)
      have g2 : l[j]? = some l[j] := List.getElem?_eq_getElem hj
      have g3 : (j : Int) < l.length := by omega
      have g4 : (0 : Int) ≤ j := by omega
      have w3 : IntKind.i64.wrap ((j : Int) + 1) = (j : Int) + 1 := wrap_id (by omega) (by omega)
      obtain ⟨n, hn0⟩ : ∃ n, n = l[j].1 + l[j].2 := ⟨_, rfl⟩
      have hn : 0 ≤ n ∧ n ≤ 4000000 := by omega
      have w2 : IntKind.i64.wrap (l[j].1 + l[j].2) = n := by rw [hn0]; exact wrap_id (by omega) (by omega)
      rw [← hn0]
      by_cases c1 : w.1 ≤ n
      · have v := freeR_eq l (by omega) hB w hW n k hn ⟨by omega, by omega⟩
        by_cases c2 : roomP l w k n
        · rw [decide_eq_true c2] at v
          by_cases c3 : B < 0
          · rw [show bestS l w k B n = n from if_pos ⟨c2, .inl c3⟩]
            (repeat (first
    | (apply is_ok; (case hw => simp [g2, g3, g4, hj, w2, w3, exV, c1, c3, v]); (case he => simp [g2, g3, g4, hj, w2, w3, exV, c1, c3, v]; exact is_rfl))
    | (apply op_no; (case hw => simp [g2, g3, g4, hj, w2, w3, exV, c1, c3, v]))
    | refine op_nil ?_ | refine next_normal ?_ | refine go_seq ?_ | refine go_region ?_ | refine go_skip ?_ | refine go_block ?_ | refine inb_normal ?_
    | (apply go_yes; (case hc => simp [g2, g3, g4, hj, w2, w3, exV, c1, c3, v])) | (apply go_no; (case hc => simp [g2, g3, g4, hj, w2, w3, exV, c1, c3, v]))
    | refine go_exit ?_ | refine next_exit ?_ | refine inb_here ?_ | refine inb_past (by decide) ?_ | refine go_ret ?_ | refine next_ret ?_ | refine inb_ret ?_))
            exact ⟨hlt, by simp [exV, w3], trivial⟩
          · by_cases c4 : n < B
            · rw [show bestS l w k B n = n from if_pos ⟨c2, .inr c4⟩]
              (repeat (first
    | (apply is_ok; (case hw => simp [g2, g3, g4, hj, w2, w3, exV, c1, c3, c4, v]); (case he => simp [g2, g3, g4, hj, w2, w3, exV, c1, c3, c4, v]; exact is_rfl))
    | (apply op_no; (case hw => simp [g2, g3, g4, hj, w2, w3, exV, c1, c3, c4, v]))
    | refine op_nil ?_ | refine next_normal ?_ | refine go_seq ?_ | refine go_region ?_ | refine go_skip ?_ | refine go_block ?_ | refine inb_normal ?_
    | (apply go_yes; (case hc => simp [g2, g3, g4, hj, w2, w3, exV, c1, c3, c4, v])) | (apply go_no; (case hc => simp [g2, g3, g4, hj, w2, w3, exV, c1, c3, c4, v]))
    | refine go_exit ?_ | refine next_exit ?_ | refine inb_here ?_ | refine inb_past (by decide) ?_ | refine go_ret ?_ | refine next_ret ?_ | refine inb_ret ?_))
              exact ⟨hlt, by simp [exV, w3], trivial⟩
            · rw [show bestS l w k B n = B from if_neg (fun h => h.2.elim c3 c4)]
              (repeat (first
    | (apply is_ok; (case hw => simp [g2, g3, g4, hj, w2, w3, exV, c1, c3, c4, v]); (case he => simp [g2, g3, g4, hj, w2, w3, exV, c1, c3, c4, v]; exact is_rfl))
    | (apply op_no; (case hw => simp [g2, g3, g4, hj, w2, w3, exV, c1, c3, c4, v]))
    | refine op_nil ?_ | refine next_normal ?_ | refine go_seq ?_ | refine go_region ?_ | refine go_skip ?_ | refine go_block ?_ | refine inb_normal ?_
    | (apply go_yes; (case hc => simp [g2, g3, g4, hj, w2, w3, exV, c1, c3, c4, v])) | (apply go_no; (case hc => simp [g2, g3, g4, hj, w2, w3, exV, c1, c3, c4, v]))
    | refine go_exit ?_ | refine next_exit ?_ | refine inb_here ?_ | refine inb_past (by decide) ?_ | refine go_ret ?_ | refine next_ret ?_ | refine inb_ret ?_))
              exact ⟨hlt, by simp [exV, w3], trivial⟩
        · rw [decide_eq_false c2] at v
          rw [show bestS l w k B n = B from if_neg (fun h => c2 h.1)]
          (repeat (first
    | (apply is_ok; (case hw => simp [g2, g3, g4, hj, w2, w3, exV, c1, v]); (case he => simp [g2, g3, g4, hj, w2, w3, exV, c1, v]; exact is_rfl))
    | (apply op_no; (case hw => simp [g2, g3, g4, hj, w2, w3, exV, c1, v]))
    | refine op_nil ?_ | refine next_normal ?_ | refine go_seq ?_ | refine go_region ?_ | refine go_skip ?_ | refine go_block ?_ | refine inb_normal ?_
    | (apply go_yes; (case hc => simp [g2, g3, g4, hj, w2, w3, exV, c1, v])) | (apply go_no; (case hc => simp [g2, g3, g4, hj, w2, w3, exV, c1, v]))
    | refine go_exit ?_ | refine next_exit ?_ | refine inb_here ?_ | refine inb_past (by decide) ?_ | refine go_ret ?_ | refine next_ret ?_ | refine inb_ret ?_))
          exact ⟨hlt, by simp [exV, w3], trivial⟩
      · have c2 : ¬ roomP l w k n := fun h => c1 h.2.1
        rw [show bestS l w k B n = B from if_neg (fun h => c2 h.1)]
        (repeat (first
    | (apply is_ok; (case hw => simp [g2, g3, g4, hj, w2, w3, exV, c1]); (case he => simp [g2, g3, g4, hj, w2, w3, exV, c1]; exact is_rfl))
    | (apply op_no; (case hw => simp [g2, g3, g4, hj, w2, w3, exV, c1]))
    | refine op_nil ?_ | refine next_normal ?_ | refine go_seq ?_ | refine go_region ?_ | refine go_skip ?_ | refine go_block ?_ | refine inb_normal ?_
    | (apply go_yes; (case hc => simp [g2, g3, g4, hj, w2, w3, exV, c1])) | (apply go_no; (case hc => simp [g2, g3, g4, hj, w2, w3, exV, c1]))
    | refine go_exit ?_ | refine next_exit ?_ | refine inb_here ?_ | refine inb_past (by decide) ?_ | refine go_ret ?_ | refine next_ret ?_ | refine inb_ret ?_))
        exact ⟨hlt, by simp [exV, w3], trivial⟩
  · have : i = l.length + 1 := by omega
    subst this
    rw [List.take_of_length_le (by omega), hR]
    have g1 : ¬ ((l.length + 1 : Nat) : Int) - 1 < l.length := by omega
    have g2 : ((l.length + 1 : Nat) : Int) - 1 = l.length := by omega
    rw [g2]
    by_cases h3 : R < 0
    · (repeat (first
    | (apply is_ok; (case hw => simp [h3]); (case he => simp [h3]; exact is_rfl))
    | (apply op_no; (case hw => simp [h3]))
    | refine op_nil ?_ | refine next_normal ?_ | refine go_seq ?_ | refine go_region ?_ | refine go_skip ?_ | refine go_block ?_ | refine inb_normal ?_
    | (apply go_yes; (case hc => simp [h3])) | (apply go_no; (case hc => simp [h3]))
    | refine go_exit ?_ | refine next_exit ?_ | refine inb_here ?_ | refine inb_past (by decide) ?_ | refine go_ret ?_ | refine next_ret ?_ | refine inb_ret ?_))
      (apply ends_ok; (case h1 => simp; exact is_rfl); (case h2 => simp; exact is_rfl))
      simp [h3]
    · (repeat (first
    | (apply is_ok; (case hw => simp [h3]); (case he => simp [h3]; exact is_rfl))
    | (apply op_no; (case hw => simp [h3]))
    | refine op_nil ?_ | refine next_normal ?_ | refine go_seq ?_ | refine go_region ?_ | refine go_skip ?_ | refine go_block ?_ | refine inb_normal ?_
    | (apply go_yes; (case hc => simp [h3])) | (apply go_no; (case hc => simp [h3]))
    | refine go_exit ?_ | refine next_exit ?_ | refine inb_here ?_ | refine inb_past (by decide) ?_ | refine go_ret ?_ | refine next_ret ?_ | refine inb_ret ?_))
      (apply ends_ok; (case h1 => simp; exact is_rfl); (case h2 => simp; exact is_rfl))
      simp [h3]
end Go.Abs
