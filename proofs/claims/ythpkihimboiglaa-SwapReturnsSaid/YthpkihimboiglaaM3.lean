/- Proved here: what functions of the program compute, over the evaluator. No condition but those that each theorem states. -/
import Derived.Test.YthpkihimboiglaaM2
import Derived.Test.YthpkihimboiglaaTF
namespace Go.Abs
open Go.Proofs
set_option maxRecDepth 100000
set_option linter.unusedSimpArgs false
set_option linter.unusedVariables false

/-- The places that the program looks at. -/
def posC (l : List Ex) (w : Ex) : List Int := w.1 :: (l.filter fun y => decide (0 < y.2)).map fun y => y.1 + y.2
theorem posC_take {l : List Ex} {w : Ex} {i : Nat} (h : i < l.length) : posC (l.take (i + 1)) w = if 0 < l[i].2 then posC (l.take i) w ++ [l[i].1 + l[i].2] else posC (l.take i) w := by
  unfold posC
  rw [List.take_succ_eq_append_getElem h, List.filter_append, List.map_append]
  by_cases hc : 0 < l[i].2 <;> simp [hc]
theorem posC_length (l : List Ex) (w : Ex) : (posC l w).length ≤ l.length + 1 := by
  unfold posC
  rw [List.length_cons, List.length_map]
  have := List.length_filter_le (fun y : Ex => decide (0 < y.2)) l
  omega

theorem Fit_eq (l : List Ex) (hl : l.length ≤ 100) (hb : ∀ y ∈ l, UsuP y) (w : Ex) (hw : UsuP w) (k : Int) : bodyW DC 10 [.sl (l.map exV), .agg [.int .i64 w.1, .int .i64 w.2], .int .i64 k] [] =
    some (if k < 1 ∨ w.2 < k then .tuple [.int .i64 0, .bool false] else match leastR l w k (posC l w) with | some n => .tuple [.int .i64 n, .bool true] | none => .tuple [.int .i64 0, .bool false], []) := by
  by_cases h1 : k < 1
  · rw [if_pos (.inl h1)]
    (refine gives_iff ?_; refine go_func Try.f10 rfl rfl (by simp [Try.f10]) ?_; dsimp only [codeL, Try.f10, scL, sopsL, guardL, dstAt, loopKey])
    (repeat (first
    | (apply is_ok; (case hw => simp [h1]); (case he => simp [h1]; exact is_rfl))
    | (apply op_no; (case hw => simp [h1]))
    | refine op_nil ?_ | refine next_normal ?_ | refine go_seq ?_ | refine go_region ?_ | refine go_skip ?_ | refine go_block ?_ | refine inb_normal ?_
    | (apply go_yes; (case hc => simp [h1])) | (apply go_no; (case hc => simp [h1]))
    | refine go_exit ?_ | refine next_exit ?_ | refine inb_here ?_ | refine inb_past (by decide) ?_ | refine go_ret ?_ | refine next_ret ?_ | refine inb_ret ?_))
    (apply ends_ok; (case h1 => simp; exact is_rfl); (case h2 => simp; exact is_rfl))
    simp
  by_cases h2 : w.2 < k
  · rw [if_pos (.inr h2)]
    (refine gives_iff ?_; refine go_func Try.f10 rfl rfl (by simp [Try.f10]) ?_; dsimp only [codeL, Try.f10, scL, sopsL, guardL, dstAt, loopKey])
    (repeat (first
    | (apply is_ok; (case hw => simp [h1, h2]); (case he => simp [h1, h2]; exact is_rfl))
    | (apply op_no; (case hw => simp [h1, h2]))
    | refine op_nil ?_ | refine next_normal ?_ | refine go_seq ?_ | refine go_region ?_ | refine go_skip ?_ | refine go_block ?_ | refine inb_normal ?_
    | (apply go_yes; (case hc => simp [h1, h2])) | (apply go_no; (case hc => simp [h1, h2]))
    | refine go_exit ?_ | refine next_exit ?_ | refine inb_here ?_ | refine inb_past (by decide) ?_ | refine go_ret ?_ | refine next_ret ?_ | refine inb_ret ?_))
    (apply ends_ok; (case h1 => simp; exact is_rfl); (case h2 => simp; exact is_rfl))
    simp
  rw [if_neg (by omega)]
  have hB : ∀ y ∈ l, BigP y := fun y hy => by obtain ⟨a, b, c, d⟩ := hb y hy; exact ⟨a, by omega, c, by omega⟩
  obtain ⟨z1, z2, z3, z4⟩ := hw
  have hW : BigP w := ⟨z1, by omega, z3, by omega⟩
  generalize hR : leastR l w k (posC l w) = R
  (refine gives_iff ?_; refine go_func Try.f10 rfl rfl (by simp [Try.f10]) ?_; dsimp only [codeL, Try.f10, scL, sopsL, guardL, dstAt, loopKey])
  (repeat (first
    | (apply is_ok; (case hw => simp [h1, h2]); (case he => simp [h1, h2]; exact is_rfl))
    | (apply op_no; (case hw => simp [h1, h2]))
    | refine op_nil ?_ | refine next_normal ?_ | refine go_seq ?_ | refine go_region ?_ | refine go_skip ?_ | refine go_block ?_ | refine inb_normal ?_
    | (apply go_yes; (case hc => simp [h1, h2])) | (apply go_no; (case hc => simp [h1, h2]))
    | refine go_exit ?_ | refine next_exit ?_ | refine inb_here ?_ | refine inb_past (by decide) ?_ | refine go_ret ?_ | refine next_ret ?_ | refine inb_ret ?_))
  refine go_count l.length (fun i => [(0, .sl (l.map exV)), (2, .int .i64 k), (4, .ptr 0 1 0 0), (8, .own 1 (posC (l.take i) w).length 0 (posC (l.take i) w).length), (25, .sl (l.map exV)), (26, .int .i64 l.length), (27, .int .i64 i)])
    (fun i => [.box (.agg [.int .i64 w.1, .int .i64 w.2]), .dat true 1 (ints (posC (l.take i) w))]) (fun _ => True) (by simp [posC]) trivial fun i hi _ => ?_
  by_cases hlt : i < l.length
  · have g1 : (i : Int) < l.length := by omega
    have g2 : l[i]? = some l[i] := List.getElem?_eq_getElem hlt
    have w1 : IntKind.i64.wrap ((i : Int) + 1) = (i : Int) + 1 := wrap_id (by omega) (by omega)
    have v1 := end_eq l[i] (hB _ (List.getElem_mem hlt))
    have hp := posC_take (w := w) hlt
    have hpl := posC_length (l.take i) w
    have hti : (l.take i).length = i := by simp; omega
    by_cases hc : 0 < l[i].2
    · rw [if_pos hc] at hp
      rw [hp]
      generalize posC (l.take i) w = S at hpl
      have r1 : (S.length + 1) * 8 ≤ room := by unfold room; omega
      have r2 : S.length + 1 ≤ room := by unfold room; omega
      (repeat (first
    | (apply is_ok; (case hw => simp [g1, g2, hlt, hc, v1, w1, r1, r2, exV]); (case he => simp [g1, g2, hlt, hc, v1, w1, r1, r2, exV]; exact is_rfl))
    | (apply op_no; (case hw => simp [g1, g2, hlt, hc, v1, w1, r1, r2, exV]))
    | refine op_nil ?_ | refine next_normal ?_ | refine go_seq ?_ | refine go_region ?_ | refine go_skip ?_ | refine go_block ?_ | refine inb_normal ?_
    | (apply go_yes; (case hc => simp [g1, g2, hlt, hc, v1, w1, r1, r2, exV])) | (apply go_no; (case hc => simp [g1, g2, hlt, hc, v1, w1, r1, r2, exV]))
    | refine go_exit ?_ | refine next_exit ?_ | refine inb_here ?_ | refine inb_past (by decide) ?_ | refine go_ret ?_ | refine next_ret ?_ | refine inb_ret ?_))
      exact ⟨hlt, by simp [exV, w1], trivial⟩
    · rw [if_neg hc] at hp
      rw [hp]
      generalize posC (l.take i) w = S at hpl
      (repeat (first
    | (apply is_ok; (case hw => simp [g1, g2, hlt, hc, v1, w1, exV]); (case he => simp [g1, g2, hlt, hc, v1, w1, exV]; exact is_rfl))
    | (apply op_no; (case hw => simp [g1, g2, hlt, hc, v1, w1, exV]))
    | refine op_nil ?_ | refine next_normal ?_ | refine go_seq ?_ | refine go_region ?_ | refine go_skip ?_ | refine go_block ?_ | refine inb_normal ?_
    | (apply go_yes; (case hc => simp [g1, g2, hlt, hc, v1, w1, exV])) | (apply go_no; (case hc => simp [g1, g2, hlt, hc, v1, w1, exV]))
    | refine go_exit ?_ | refine next_exit ?_ | refine inb_here ?_ | refine inb_past (by decide) ?_ | refine go_ret ?_ | refine next_ret ?_ | refine inb_ret ?_))
      exact ⟨hlt, by simp [exV, w1], trivial⟩
  · have : i = l.length := by omega
    subst this
    have g1 : ¬ (l.length : Int) < l.length := by omega
    rw [List.take_length]
    have hpl := posC_length l w
    have hpos : ∀ n ∈ posC l w, 0 ≤ n ∧ n ≤ 4000000 := fun n hn => by
      rcases List.mem_cons.1 hn with rfl | hn
      · exact ⟨z1, by omega⟩
      · obtain ⟨y, hy, rfl⟩ := List.mem_map.1 hn
        obtain ⟨a, b, c, d⟩ := hb y (List.mem_filter.1 hy).1
        exact ⟨by omega, by omega⟩
    unfold leastR at hR
    have hsl := sorted_length (posC l w)
    have hsp : ∀ n ∈ sorted (posC l w), 0 ≤ n ∧ n ≤ 4000000 := fun n hn => hpos n (sorted_mem.1 hn)
    have hx : sortX [.own 1 (posC l w).length 0 (posC l w).length] [.box (.agg [.int .i64 w.1, .int .i64 w.2]), .dat true 1 (ints (posC l w))] = some (.tuple [], [.box (.agg [.int .i64 w.1, .int .i64 w.2]), .dat true 1 (ints (sorted (posC l w)))]) := by
      simp only [sortX, List.getElem?_cons_succ, List.getElem?_cons_zero, intsOf_ints]
      rw [if_pos ⟨trivial, trivial, trivial, trivial, by unfold room; omega⟩]
      rfl
    generalize sorted (posC l w) = S at *
    generalize posC l w = Q at *
    (repeat (first
    | (apply is_ok; (case hw => simp [g1, hx, hsl]); (case he => simp [g1, hx, hsl]; exact is_rfl))
    | (apply op_no; (case hw => simp [g1, hx, hsl]))
    | refine op_nil ?_ | refine next_normal ?_ | refine go_seq ?_ | refine go_region ?_ | refine go_skip ?_ | refine go_block ?_ | refine inb_normal ?_
    | (apply go_yes; (case hc => simp [g1, hx, hsl])) | (apply go_no; (case hc => simp [g1, hx, hsl]))
    | refine go_exit ?_ | refine next_exit ?_ | refine inb_here ?_ | refine inb_past (by decide) ?_ | refine go_ret ?_ | refine next_ret ?_ | refine inb_ret ?_))
    refine go_count Q.length (fun i => [(0, .sl (l.map exV)), (2, .int .i64 k), (4, .ptr 0 1 0 0), (42, .own 1 Q.length 0 Q.length), (43, .int .i64 Q.length), (44, .int .i64 i)])
      (fun i => [.box (.agg [.int .i64 w.1, .int .i64 w.2]), .dat true 1 (ints S)]) (fun i => ∀ j (h : j < S.length), j < i → ¬ roomP l w k S[j]) (by simp [hsl]) (fun j _ h => absurd h (Nat.not_lt_zero j)) fun i hi hI => ?_
    by_cases hlt : i < Q.length
    · have hlS : i < S.length := by omega
      have q1 : (i : Int) < Q.length := by omega
      have q2 : S[i]? = some S[i] := List.getElem?_eq_getElem hlS
      have w1 : IntKind.i64.wrap ((i : Int) + 1) = (i : Int) + 1 := wrap_id (by omega) (by omega)
      have hn := hsp S[i] (List.getElem_mem hlS)
      have hxB : BigP (S[i], k) := ⟨hn.1, hn.2, by omega, by omega⟩
      have v2 := within_eq (S[i], k) w ⟨hn.1, hn.2, by omega, by omega⟩ hW
      have v3 := cont_eq l (by omega) hB (S[i], k) w S hxB
      have next : ¬ roomP l w k S[i] → ∀ j (h : j < S.length), j < i + 1 → ¬ roomP l w k S[j] := fun hno j h hj => by
        rcases Nat.lt_or_ge j i with h1 | h1
        · exact hI j h h1
        · have : j = i := by omega
          subst this
          exact hno
      by_cases c1 : w.1 ≤ S[i]
      · by_cases c2 : S[i] + k ≤ w.1 + w.2
        · rw [decide_eq_true (show w.1 ≤ S[i] ∧ S[i] + k ≤ w.1 + w.2 from ⟨c1, c2⟩)] at v2
          by_cases c3 : ∃ y ∈ l, meetP (S[i], k) y
          · rw [decide_eq_true c3] at v3
            have hno : ¬ roomP l w k S[i] := fun h => by obtain ⟨y, hy, hm⟩ := c3; exact h.1 y hy hm
            simp only at v2 v3
            (repeat (first
    | (apply is_ok; (case hw => simp [q1, q2, hlt, hlS, hsl, c1, v2, v3, w1]); (case he => simp [q1, q2, hlt, hlS, hsl, c1, v2, v3, w1]; exact is_rfl))
    | (apply op_no; (case hw => simp [q1, q2, hlt, hlS, hsl, c1, v2, v3, w1]))
    | refine op_nil ?_ | refine next_normal ?_ | refine go_seq ?_ | refine go_region ?_ | refine go_skip ?_ | refine go_block ?_ | refine inb_normal ?_
    | (apply go_yes; (case hc => simp [q1, q2, hlt, hlS, hsl, c1, v2, v3, w1])) | (apply go_no; (case hc => simp [q1, q2, hlt, hlS, hsl, c1, v2, v3, w1]))
    | refine go_exit ?_ | refine next_exit ?_ | refine inb_here ?_ | refine inb_past (by decide) ?_ | refine go_ret ?_ | refine next_ret ?_ | refine inb_ret ?_))
            exact ⟨hlt, by simp [w1, hsl], next hno⟩
          · rw [decide_eq_false c3] at v3
            have hyes : roomP l w k S[i] := ⟨fun y hy hm => c3 ⟨y, hy, hm⟩, c1, c2⟩
            have hf : S.find? (fun n => decide (roomP l w k n)) = some S[i] := by
              rw [List.find?_eq_some_iff_getElem]
              exact ⟨by simpa using hyes, i, hlS, rfl, fun j hj => by simpa using hI j (by omega) hj⟩
            rw [hf] at hR
            subst hR
            simp only at v2 v3
            (repeat (first
    | (apply is_ok; (case hw => simp [q1, q2, hlt, hlS, hsl, c1, v2, v3, w1]); (case he => simp [q1, q2, hlt, hlS, hsl, c1, v2, v3, w1]; exact is_rfl))
    | (apply op_no; (case hw => simp [q1, q2, hlt, hlS, hsl, c1, v2, v3, w1]))
    | refine op_nil ?_ | refine next_normal ?_ | refine go_seq ?_ | refine go_region ?_ | refine go_skip ?_ | refine go_block ?_ | refine inb_normal ?_
    | (apply go_yes; (case hc => simp [q1, q2, hlt, hlS, hsl, c1, v2, v3, w1])) | (apply go_no; (case hc => simp [q1, q2, hlt, hlS, hsl, c1, v2, v3, w1]))
    | refine go_exit ?_ | refine next_exit ?_ | refine inb_here ?_ | refine inb_past (by decide) ?_ | refine go_ret ?_ | refine next_ret ?_ | refine inb_ret ?_))
            (apply ends_ok; (case h1 => simp; exact is_rfl); (case h2 => simp; exact is_rfl))
            simp
        · rw [decide_eq_false (show ¬ (w.1 ≤ S[i] ∧ S[i] + k ≤ w.1 + w.2) from fun h => c2 h.2)] at v2
          have hno : ¬ roomP l w k S[i] := fun h => c2 h.2.2
          simp only at v2
          (repeat (first
    | (apply is_ok; (case hw => simp [q1, q2, hlt, hlS, hsl, c1, v2, w1]); (case he => simp [q1, q2, hlt, hlS, hsl, c1, v2, w1]; exact is_rfl))
    | (apply op_no; (case hw => simp [q1, q2, hlt, hlS, hsl, c1, v2, w1]))
    | refine op_nil ?_ | refine next_normal ?_ | refine go_seq ?_ | refine go_region ?_ | refine go_skip ?_ | refine go_block ?_ | refine inb_normal ?_
    | (apply go_yes; (case hc => simp [q1, q2, hlt, hlS, hsl, c1, v2, w1])) | (apply go_no; (case hc => simp [q1, q2, hlt, hlS, hsl, c1, v2, w1]))
    | refine go_exit ?_ | refine next_exit ?_ | refine inb_here ?_ | refine inb_past (by decide) ?_ | refine go_ret ?_ | refine next_ret ?_ | refine inb_ret ?_))
          exact ⟨hlt, by simp [w1, hsl], next hno⟩
      · have hno : ¬ roomP l w k S[i] := fun h => c1 h.2.1
        (repeat (first
    | (apply is_ok; (case hw => simp [q1, q2, hlt, hlS, hsl, c1, w1]); (case he => simp [q1, q2, hlt, hlS, hsl, c1, w1]; exact is_rfl))
    | (apply op_no; (case hw => simp [q1, q2, hlt, hlS, hsl, c1, w1]))
    | refine op_nil ?_ | refine next_normal ?_ | refine go_seq ?_ | refine go_region ?_ | refine go_skip ?_ | refine go_block ?_ | refine inb_normal ?_
    | (apply go_yes; (case hc => simp [q1, q2, hlt, hlS, hsl, c1, w1])) | (apply go_no; (case hc => simp [q1, q2, hlt, hlS, hsl, c1, w1]))
    | refine go_exit ?_ | refine next_exit ?_ | refine inb_here ?_ | refine inb_past (by decide) ?_ | refine go_ret ?_ | refine next_ret ?_ | refine inb_ret ?_))
        exact ⟨hlt, by simp [w1, hsl], next hno⟩
    · have : i = Q.length := by omega
      subst this
      have q1 : ¬ (Q.length : Int) < Q.length := by omega
      have hf : S.find? (fun n => decide (roomP l w k n)) = none := by
        rw [List.find?_eq_none]
        intro n hn
        obtain ⟨j, hj, rfl⟩ := List.mem_iff_getElem.1 hn
        simpa using hI j hj (by omega)
      rw [hf] at hR
      subst hR
      (repeat (first
    | (apply is_ok; (case hw => simp [q1]); (case he => simp [q1]; exact is_rfl))
    | (apply op_no; (case hw => simp [q1]))
    | refine op_nil ?_ | refine next_normal ?_ | refine go_seq ?_ | refine go_region ?_ | refine go_skip ?_ | refine go_block ?_ | refine inb_normal ?_
    | (apply go_yes; (case hc => simp [q1])) | (apply go_no; (case hc => simp [q1]))
    | refine go_exit ?_ | refine next_exit ?_ | refine inb_here ?_ | refine inb_past (by decide) ?_ | refine go_ret ?_ | refine next_ret ?_ | refine inb_ret ?_))
      (apply ends_ok; (case h1 => simp; exact is_rfl); (case h2 => simp; exact is_rfl))
      simp
end Go.Abs

namespace Go.Abs
open Go.Proofs
set_option maxRecDepth 100000
set_option linter.unusedSimpArgs false
set_option linter.unusedVariables false

theorem alive45_eq : bodyW DC 12 [] [] = some (.bool true, []) := bodyW_iff.2 ⟨3000, by kernel_rfl⟩
end Go.Abs

namespace Go.Abs
open Go.Proofs
set_option maxRecDepth 100000
set_option linter.unusedSimpArgs false
set_option linter.unusedVariables false

theorem best_spec {l : List Ex} {w : Ex} {k : Int} : ∀ (cs : List Int) (b : Int), (∀ n ∈ cs, 0 ≤ n) → (b < 0 → b = -1) →
    (cs.foldl (bestS l w k) b = b ∨ (cs.foldl (bestS l w k) b ∈ cs ∧ roomP l w k (cs.foldl (bestS l w k) b))) ∧ (∀ n ∈ cs, roomP l w k n → 0 ≤ cs.foldl (bestS l w k) b ∧ cs.foldl (bestS l w k) b ≤ n) ∧ (0 ≤ b → 0 ≤ cs.foldl (bestS l w k) b ∧ cs.foldl (bestS l w k) b ≤ b)
  | [], b, _, _ => ⟨.inl rfl, (fun n hn => by cases hn), fun h => ⟨h, Int.le_refl _⟩⟩
  | n :: r, b, hp, hb => by
    have hn := hp n (by simp)
    rw [List.foldl_cons]
    by_cases hc : roomP l w k n ∧ (b < 0 ∨ n < b)
    · rw [show bestS l w k b n = n from if_pos hc]
      obtain ⟨i1, i2, i3⟩ := best_spec r n (fun m hm => hp m (by simp [hm])) (fun h => by omega)
      obtain ⟨i4, i5⟩ := i3 hn
      refine ⟨.inr ?_, fun m hm hr => ?_, fun h => ⟨i4, by omega⟩⟩
      · rcases i1 with h | ⟨h1, h2⟩
        · rw [h]; exact ⟨by simp, hc.1⟩
        · exact ⟨by simp [h1], h2⟩
      · rcases List.mem_cons.1 hm with rfl | hm
        · exact ⟨i4, i5⟩
        · exact i2 m hm hr
    · rw [show bestS l w k b n = b from if_neg hc]
      obtain ⟨i1, i2, i3⟩ := best_spec r b (fun m hm => hp m (by simp [hm])) hb
      refine ⟨?_, fun m hm hr => ?_, i3⟩
      · rcases i1 with h | ⟨h1, h2⟩
        · exact .inl h
        · exact .inr ⟨by simp [h1], h2⟩
      · rcases List.mem_cons.1 hm with rfl | hm
        · have : 0 ≤ b ∧ b ≤ m := by
            have h1 : ¬ (b < 0 ∨ m < b) := fun h => hc ⟨hr, h⟩
            omega
          obtain ⟨i4, i5⟩ := i3 this.1
          exact ⟨i4, by omega⟩
        · exact i2 m hm hr

theorem sorted_pair (l : List Int) : (sorted l).Pairwise (· ≤ ·) := by
  rw [sorted_eq]
  have tr : ∀ (a b c : Int), decide (a ≤ b) = true → decide (b ≤ c) = true → decide (a ≤ c) = true := fun a b c h1 h2 => by simp at *; omega
  have tt : ∀ (a b : Int), (decide (a ≤ b) || decide (b ≤ a)) = true := fun a b => by simp; omega
  exact (List.pairwise_mergeSort tr tt l).imp fun h => by simpa using h
theorem cand_pos {l : List Ex} {w : Ex} {m : Int} : candP l w m ↔ m ∈ posC l w := by
  unfold candP posC
  rw [List.mem_cons, List.mem_map]
  constructor
  · rintro (h | ⟨y, h1, h2, h3⟩)
    · exact .inl h
    · exact .inr ⟨y, List.mem_filter.2 ⟨h1, by simpa using h2⟩, h3.symm⟩
  · rintro (h | ⟨y, h1, h2⟩)
    · exact .inl h
    · obtain ⟨h3, h4⟩ := List.mem_filter.1 h1
      exact .inr ⟨y, h3, by simpa using h4, h2.symm⟩
theorem pos_all {l : List Ex} {w : Ex} {m : Int} (h : m ∈ posC l w) : m ∈ allC l w := by
  unfold posC at h
  unfold allC
  rcases List.mem_cons.1 h with h | h
  · exact List.mem_cons.2 (.inl h)
  · obtain ⟨y, h1, h2⟩ := List.mem_map.1 h
    exact List.mem_cons.2 (.inr (List.mem_map.2 ⟨y, (List.mem_filter.1 h1).1, h2⟩))

theorem fits {l : List Ex} {w : Ex} {k : Int} (hb : ∀ y ∈ l, UsuP y) (hw : UsuP w) (hk : 0 < k) : (∃ n, leastR l w k (posC l w) = some n ∧ bestF l w k (allC l w) = n ∧ 0 ≤ n) ∨ (leastR l w k (posC l w) = none ∧ bestF l w k (allC l w) = -1) := by
  have hp : ∀ n ∈ allC l w, 0 ≤ n := fun n hn => by
    rcases List.mem_cons.1 hn with rfl | hn
    · exact hw.1
    · obtain ⟨y, hy, rfl⟩ := List.mem_map.1 hn
      have := hb y hy
      have h1 := this.1
      have h2 := this.2.2.1
      omega
  obtain ⟨b1, b2, _⟩ := best_spec (l := l) (w := w) (k := k) (allC l w) (-1) hp (fun _ => rfl)
  change bestF l w k (allC l w) = -1 ∨ _ at b1
  change ∀ n ∈ allC l w, roomP l w k n → 0 ≤ bestF l w k (allC l w) ∧ bestF l w k (allC l w) ≤ n at b2
  cases hc : leastR l w k (posC l w) with
  | some n =>
    left
    obtain ⟨c1, c2, c3⟩ := find_sorted_min (sorted_pair _) hc
    have c2' : roomP l w k n := by simpa using c2
    obtain ⟨d1, d2⟩ := b2 n (pos_all (sorted_mem.1 c1)) c2'
    rcases b1 with h | ⟨h1, h2⟩
    · omega
    · obtain ⟨m, m1, m2, m3⟩ := room_cand hk h2
      have := c3 m (sorted_mem.2 (cand_pos.1 m1)) (by simpa using m3)
      change bestF l w k (allC l w) ∈ _ at h1
      change m ≤ bestF l w k (allC l w) at m2
      exact ⟨n, rfl, by omega, by omega⟩
  | none =>
    right
    refine ⟨rfl, ?_⟩
    rcases b1 with h | ⟨h1, h2⟩
    · exact h
    · obtain ⟨m, m1, m2, m3⟩ := room_cand hk h2
      unfold leastR at hc
      rw [List.find?_eq_none] at hc
      exact absurd (by simpa using m3) (hc m (sorted_mem.2 (cand_pos.1 m1)))

def UsuL (l : List Ex) : Prop := l.length ≤ 100 ∧ ∀ y ∈ l, UsuP y
instance (l : List Ex) : Decidable (UsuL l) := by unfold UsuL; infer_instance
theorem usual_eq (l : List Ex) (hl : l.length ≤ maxLen) : bodyW DC 8 [.sl (l.map exV)] [] = some (.bool (decide (UsuL l)), []) := by
  (refine gives_iff ?_; refine go_func Try.f8 rfl rfl (by simp [Try.f8]) ?_; dsimp only [codeL, Try.f8, scL, sopsL, guardL, dstAt, loopKey])
  (repeat (first
    | (apply is_ok; (case hw => simp); (case he => simp; exact is_rfl))
    | (apply op_no; (case hw => simp))
    | refine op_nil ?_ | refine next_normal ?_ | refine go_seq ?_ | refine go_region ?_ | refine go_skip ?_ | refine go_block ?_ | refine inb_normal ?_
    | (apply go_yes; (case hc => simp)) | (apply go_no; (case hc => simp))
    | refine go_exit ?_ | refine next_exit ?_ | refine inb_here ?_ | refine inb_past (by decide) ?_ | refine go_ret ?_ | refine next_ret ?_ | refine inb_ret ?_))
  refine go_count (min l.length 101) (fun i => [(0, .sl (l.map exV)), (3, .int .i64 i)]) (fun _ => []) (fun i => ∀ j (h : j < l.length), j < i → UsuP l[j]) (by simp) (fun j _ h => absurd h (Nat.not_lt_zero j)) fun i hi hI => ?_
  by_cases hlt : i < l.length
  · have g1 : (i : Int) < l.length := by omega
    by_cases h101 : i < 101
    · have g3 : (i : Int) < 101 := by omega
      have g2 : l[i]? = some l[i] := List.getElem?_eq_getElem hlt
      have w1 : IntKind.i64.wrap ((i : Int) + 1) = (i : Int) + 1 := wrap_id (by omega) (by omega)
      have v1 := Usual_eq l[i]
      by_cases hu : UsuP l[i]
      · rw [decide_eq_true hu] at v1
        (repeat (first
    | (apply is_ok; (case hw => simp [g1, g2, g3, hlt, v1, w1, exV]); (case he => simp [g1, g2, g3, hlt, v1, w1, exV]; exact is_rfl))
    | (apply op_no; (case hw => simp [g1, g2, g3, hlt, v1, w1, exV]))
    | refine op_nil ?_ | refine next_normal ?_ | refine go_seq ?_ | refine go_region ?_ | refine go_skip ?_ | refine go_block ?_ | refine inb_normal ?_
    | (apply go_yes; (case hc => simp [g1, g2, g3, hlt, v1, w1, exV])) | (apply go_no; (case hc => simp [g1, g2, g3, hlt, v1, w1, exV]))
    | refine go_exit ?_ | refine next_exit ?_ | refine inb_here ?_ | refine inb_past (by decide) ?_ | refine go_ret ?_ | refine next_ret ?_ | refine inb_ret ?_))
        exact ⟨by omega, by simp [exV, w1], fun j h hj => by
          rcases Nat.lt_or_ge j i with h1 | h1
          · exact hI j h h1
          · have : j = i := by omega
            subst this
            exact hu⟩
      · rw [decide_eq_false hu] at v1
        rw [decide_eq_false (show ¬ UsuL l from fun h => hu (h.2 _ (List.getElem_mem hlt)))]
        (repeat (first
    | (apply is_ok; (case hw => simp [g1, g2, g3, hlt, v1, exV]); (case he => simp [g1, g2, g3, hlt, v1, exV]; exact is_rfl))
    | (apply op_no; (case hw => simp [g1, g2, g3, hlt, v1, exV]))
    | refine op_nil ?_ | refine next_normal ?_ | refine go_seq ?_ | refine go_region ?_ | refine go_skip ?_ | refine go_block ?_ | refine inb_normal ?_
    | (apply go_yes; (case hc => simp [g1, g2, g3, hlt, v1, exV])) | (apply go_no; (case hc => simp [g1, g2, g3, hlt, v1, exV]))
    | refine go_exit ?_ | refine next_exit ?_ | refine inb_here ?_ | refine inb_past (by decide) ?_ | refine go_ret ?_ | refine next_ret ?_ | refine inb_ret ?_))
        (apply ends_ok; (case h1 => simp; exact is_rfl); (case h2 => simp; exact is_rfl))
        simp
    · have g3 : ¬ (i : Int) < 101 := by omega
      have g4 : ¬ (l.length : Int) ≤ 100 := by omega
      rw [decide_eq_false (show ¬ UsuL l from fun h => by have := h.1; omega)]
      (repeat (first
    | (apply is_ok; (case hw => simp [g1, g3, g4]); (case he => simp [g1, g3, g4]; exact is_rfl))
    | (apply op_no; (case hw => simp [g1, g3, g4]))
    | refine op_nil ?_ | refine next_normal ?_ | refine go_seq ?_ | refine go_region ?_ | refine go_skip ?_ | refine go_block ?_ | refine inb_normal ?_
    | (apply go_yes; (case hc => simp [g1, g3, g4])) | (apply go_no; (case hc => simp [g1, g3, g4]))
    | refine go_exit ?_ | refine next_exit ?_ | refine inb_here ?_ | refine inb_past (by decide) ?_ | refine go_ret ?_ | refine next_ret ?_ | refine inb_ret ?_))
      (apply ends_ok; (case h1 => simp; exact is_rfl); (case h2 => simp; exact is_rfl))
      simp [g4]
  · have g1 : ¬ (i : Int) < l.length := by omega
    have g5 : l.length ≤ 101 := by omega
    by_cases h101 : l.length = 101
    · have g4 : ¬ (l.length : Int) ≤ 100 := by omega
      rw [decide_eq_false (show ¬ UsuL l from fun h => by have := h.1; omega)]
      (repeat (first
    | (apply is_ok; (case hw => simp [g1, g4]); (case he => simp [g1, g4]; exact is_rfl))
    | (apply op_no; (case hw => simp [g1, g4]))
    | refine op_nil ?_ | refine next_normal ?_ | refine go_seq ?_ | refine go_region ?_ | refine go_skip ?_ | refine go_block ?_ | refine inb_normal ?_
    | (apply go_yes; (case hc => simp [g1, g4])) | (apply go_no; (case hc => simp [g1, g4]))
    | refine go_exit ?_ | refine next_exit ?_ | refine inb_here ?_ | refine inb_past (by decide) ?_ | refine go_ret ?_ | refine next_ret ?_ | refine inb_ret ?_))
      (apply ends_ok; (case h1 => simp; exact is_rfl); (case h2 => simp; exact is_rfl))
      simp [g4]
    have g4 : (l.length : Int) ≤ 100 := by omega
    rw [decide_eq_true (show UsuL l from ⟨by omega, fun y hy => by
      obtain ⟨j, hj, rfl⟩ := List.mem_iff_getElem.1 hy
      exact hI j hj (by omega)⟩)]
    (repeat (first
    | (apply is_ok; (case hw => simp [g1, g4]); (case he => simp [g1, g4]; exact is_rfl))
    | (apply op_no; (case hw => simp [g1, g4]))
    | refine op_nil ?_ | refine next_normal ?_ | refine go_seq ?_ | refine go_region ?_ | refine go_skip ?_ | refine go_block ?_ | refine inb_normal ?_
    | (apply go_yes; (case hc => simp [g1, g4])) | (apply go_no; (case hc => simp [g1, g4]))
    | refine go_exit ?_ | refine next_exit ?_ | refine inb_here ?_ | refine inb_past (by decide) ?_ | refine go_ret ?_ | refine next_ret ?_ | refine inb_ret ?_))
    (apply ends_ok; (case h1 => simp; exact is_rfl); (case h2 => simp; exact is_rfl))
    simp [g4]

theorem L_SwapFits (l : List Ex) (hl : l.length ≤ maxLen) (w : Ex) (k : Int) : bodyW DC 3 [.sl (l.map exV), .agg [.int .i64 w.1, .int .i64 w.2], .int .i64 k] [] = some (.bool true, []) := by
  have v1 := usual_eq l hl
  have v2 := Usual_eq w
  by_cases h1 : UsuL l
  case neg =>
    rw [decide_eq_false h1] at v1
    generalize decide (UsuP w) = b at v2
    (refine gives_iff ?_; refine go_func Try.f3 rfl rfl (by simp [Try.f3]) ?_; dsimp only [codeL, Try.f3, scL, sopsL, guardL, dstAt, loopKey])
    (repeat (first
    | (apply is_ok; (case hw => simp [v1, v2]); (case he => simp [v1, v2]; exact is_rfl))
    | (apply op_no; (case hw => simp [v1, v2]))
    | refine op_nil ?_ | refine next_normal ?_ | refine go_seq ?_ | refine go_region ?_ | refine go_skip ?_ | refine go_block ?_ | refine inb_normal ?_
    | (apply go_yes; (case hc => simp [v1, v2])) | (apply go_no; (case hc => simp [v1, v2]))
    | refine go_exit ?_ | refine next_exit ?_ | refine inb_here ?_ | refine inb_past (by decide) ?_ | refine go_ret ?_ | refine next_ret ?_ | refine inb_ret ?_))
    (apply ends_ok; (case h1 => simp; exact is_rfl); (case h2 => simp; exact is_rfl))
    simp
  rw [decide_eq_true h1] at v1
  by_cases h2 : UsuP w
  case neg =>
    rw [decide_eq_false h2] at v2
    (refine gives_iff ?_; refine go_func Try.f3 rfl rfl (by simp [Try.f3]) ?_; dsimp only [codeL, Try.f3, scL, sopsL, guardL, dstAt, loopKey])
    (repeat (first
    | (apply is_ok; (case hw => simp [v1, v2]); (case he => simp [v1, v2]; exact is_rfl))
    | (apply op_no; (case hw => simp [v1, v2]))
    | refine op_nil ?_ | refine next_normal ?_ | refine go_seq ?_ | refine go_region ?_ | refine go_skip ?_ | refine go_block ?_ | refine inb_normal ?_
    | (apply go_yes; (case hc => simp [v1, v2])) | (apply go_no; (case hc => simp [v1, v2]))
    | refine go_exit ?_ | refine next_exit ?_ | refine inb_here ?_ | refine inb_past (by decide) ?_ | refine go_ret ?_ | refine next_ret ?_ | refine inb_ret ?_))
    (apply ends_ok; (case h1 => simp; exact is_rfl); (case h2 => simp; exact is_rfl))
    simp
  rw [decide_eq_true h2] at v2
  have v3 := Fit_eq l h1.1 h1.2 w h2 k
  have v4 := FitR_eq l h1.1 h1.2 w h2 k
  obtain ⟨a, b, e1, e2⟩ : ∃ a b, (if k < 1 ∨ w.2 < k then V.tuple [.int .i64 0, .bool false] else match leastR l w k (posC l w) with | some n => .tuple [.int .i64 n, .bool true] | none => .tuple [.int .i64 0, .bool false]) = .tuple [.int .i64 a, .bool b] ∧
      (if k < 1 ∨ 1048576 < k then V.tuple [.int .i64 0, .bool false] else if bestF l w k (allC l w) < 0 then .tuple [.int .i64 0, .bool false] else .tuple [.int .i64 (bestF l w k (allC l w)), .bool true]) = .tuple [.int .i64 a, .bool b] := by
    by_cases c1 : k < 1
    · exact ⟨0, false, by rw [if_pos (.inl c1)], by rw [if_pos (.inl c1)]⟩
    obtain ⟨z1, z2, z3, z4⟩ := h2
    rcases fits h1.2 ⟨z1, z2, z3, z4⟩ (show 0 < k by omega) with ⟨n, f1, f2, f3⟩ | ⟨f1, f2⟩
    · have hk : k ≤ w.2 := by
        obtain ⟨c1, c2, c3⟩ := find_sorted_min (sorted_pair _) f1
        have c2' : roomP l w k n := by simpa using c2
        have h3 := c2'.2.1
        have h4 := c2'.2.2
        omega
      refine ⟨n, true, ?_, ?_⟩
      · rw [if_neg (by omega), f1]
      · rw [if_neg (by omega), f2, if_neg (by omega)]
    · refine ⟨0, false, ?_, ?_⟩
      · rw [f1]
        split <;> rfl
      · rw [f2]
        split
        · rfl
        · rfl
  have v3' := v3.trans (congrArg (fun z => some (z, ([] : Heap))) e1)
  have v4' := v4.trans (congrArg (fun z => some (z, ([] : Heap))) e2)
  (refine gives_iff ?_; refine go_func Try.f3 rfl rfl (by simp [Try.f3]) ?_; dsimp only [codeL, Try.f3, scL, sopsL, guardL, dstAt, loopKey])
  (repeat (first
    | (apply is_ok; (case hw => simp [v1, v2, v3', v4', alive45_eq]); (case he => simp [v1, v2, v3', v4', alive45_eq]; exact is_rfl))
    | (apply op_no; (case hw => simp [v1, v2, v3', v4', alive45_eq]))
    | refine op_nil ?_ | refine next_normal ?_ | refine go_seq ?_ | refine go_region ?_ | refine go_skip ?_ | refine go_block ?_ | refine inb_normal ?_
    | (apply go_yes; (case hc => simp [v1, v2, v3', v4', alive45_eq])) | (apply go_no; (case hc => simp [v1, v2, v3', v4', alive45_eq]))
    | refine go_exit ?_ | refine next_exit ?_ | refine inb_here ?_ | refine inb_past (by decide) ?_ | refine go_ret ?_ | refine next_ret ?_ | refine inb_ret ?_))
  (apply ends_ok; (case h1 => simp; exact is_rfl); (case h2 => simp; exact is_rfl))
  simp

/-- The arguments of the law. -/
theorem ex_cells {n : Nat} {cs : List V} (h : HasT Try.prog n 24 cs) : ∃ p : Ex, .agg cs = exV p := by
  obtain ⟨m, rfl, h1, h2⟩ := hasT_struct Try.underlying24 h
  have hl : cs.length = 2 := h1.trans (by kernel_rfl)
  match cs, hl with
  | [a, b], _ =>
    have f0 := h2 0 _ rfl
    have f1 := h2 1 _ rfl
    obtain ⟨y, e1, hY⟩ := hasT_int Try.underlying3 f0
    obtain ⟨z, e2, hZ⟩ := hasT_int Try.underlying3 f1
    have e1' : [a] = [V.int .i64 y] := e1
    have e2' : [b] = [V.int .i64 z] := e2
    cases e1'
    cases e2'
    exact ⟨(y, z), rfl⟩
theorem exs_of {x : V} (h : ArgT Try.prog 22 x) : ∃ l : List Ex, x = .sl (l.map exV) ∧ l.length ≤ maxLen := by
  obtain ⟨n, h1, h2⟩ := h
  rw [show aggT Try.prog 22 = some false by kernel_rfl] at h2
  rw [cells_one (Option.some.inj h2).symm] at h1
  obtain ⟨m, es, rfl, h3, h4, h5⟩ := hasT_slice Try.underlying22 (cells_ne (n := 2) (by kernel_rfl) (by decide)) h1
  cases h3
  obtain ⟨l, rfl, hp⟩ := map_of (p := fun _ => True) (f := exV) fun x hx => by
    obtain ⟨h6, h7⟩ := h5 x hx
    rw [show aggT Try.prog 24 = some true by kernel_rfl] at h6
    obtain ⟨cs, rfl⟩ := cells_some (Option.some.inj h6).symm
    obtain ⟨w, h8⟩ := ex_cells h7
    exact ⟨w, h8, trivial⟩
  exact ⟨l, rfl, by simpa using h4⟩
theorem ex_of {x : V} (h : ArgT Try.prog 24 x) : ∃ p : Ex, x = .agg [.int .i64 p.1, .int .i64 p.2] := by
  obtain ⟨n, h1, h2⟩ := h
  rw [show aggT Try.prog 24 = some true by kernel_rfl] at h2
  obtain ⟨cs, rfl⟩ := cells_some (Option.some.inj h2).symm
  exact ex_cells h1
end Go.Abs

namespace Go.Abs
open Go.Proofs
set_option maxRecDepth 100000
set_option linter.unusedSimpArgs false
set_option linter.unusedVariables false

/-- What Fit returns. -/
def fitN (l : List Ex) (w : Ex) (k : Int) : Option Int := if k < 1 ∨ w.2 < k then none else leastR l w k (posC l w)
def fitV (l : List Ex) (w : Ex) (k : Int) : V := match fitN l w k with | some n => .tuple [.int .i64 n, .bool true] | none => .tuple [.int .i64 0, .bool false]
theorem Fit_eq' (l : List Ex) (hl : l.length ≤ 100) (hb : ∀ y ∈ l, UsuP y) (w : Ex) (hw : UsuP w) (k : Int) : bodyW DC 10 [.sl (l.map exV), .agg [.int .i64 w.1, .int .i64 w.2], .int .i64 k] [] = some (fitV l w k, []) := by
  rw [Fit_eq l hl hb w hw k]
  unfold fitV fitN
  split <;> rfl

/-- The place that Fit finds, told without candidates. -/
theorem fit_least {l : List Ex} {w : Ex} {k : Int} (hk : 0 < k) : (∀ n, fitN l w k = some n → roomP l w k n ∧ ∀ m, roomP l w k m → n ≤ m) ∧ (fitN l w k = none → ∀ m, ¬ roomP l w k m) := by
  unfold fitN
  by_cases h : k < 1 ∨ w.2 < k
  · rw [if_pos h]
    refine ⟨fun n hn => (by cases hn), fun _ m hm => ?_⟩
    have h1 := hm.2.1
    have h2 := hm.2.2
    omega
  rw [if_neg h]
  constructor
  · intro n hn
    obtain ⟨c1, c2, c3⟩ := find_sorted_min (sorted_pair _) hn
    refine ⟨by simpa using c2, fun m hm => ?_⟩
    obtain ⟨q, q1, q2, q3⟩ := room_cand hk hm
    have := c3 q (sorted_mem.2 (cand_pos.1 q1)) (by simpa using q3)
    omega
  · intro hn m hm
    obtain ⟨q, q1, q2, q3⟩ := room_cand hk hm
    unfold leastR at hn
    rw [List.find?_eq_none] at hn
    exact absurd (by simpa using q3) (hn q (sorted_mem.2 (cand_pos.1 q1)))

theorem L_SwapLeast (l : List Ex) (hl : l.length ≤ maxLen) (w : Ex) (k : Int) : bodyW DC 5 [.sl (l.map exV), .agg [.int .i64 w.1, .int .i64 w.2], .int .i64 k] [] = some (.bool true, []) := by
  have v1 := usual_eq l hl
  have v2 := Usual_eq w
  by_cases h1 : UsuL l
  case neg =>
    rw [decide_eq_false h1] at v1
    generalize decide (UsuP w) = b at v2
    (refine gives_iff ?_; refine go_func Try.f5 rfl rfl (by simp [Try.f5]) ?_; dsimp only [codeL, Try.f5, scL, sopsL, guardL, dstAt, loopKey])
    (repeat (first
    | (apply is_ok; (case hw => simp [v1, v2]); (case he => simp [v1, v2]; exact is_rfl))
    | (apply op_no; (case hw => simp [v1, v2]))
    | refine op_nil ?_ | refine next_normal ?_ | refine go_seq ?_ | refine go_region ?_ | refine go_skip ?_ | refine go_block ?_ | refine inb_normal ?_
    | (apply go_yes; (case hc => simp [v1, v2])) | (apply go_no; (case hc => simp [v1, v2]))
    | refine go_exit ?_ | refine next_exit ?_ | refine inb_here ?_ | refine inb_past (by decide) ?_ | refine go_ret ?_ | refine next_ret ?_ | refine inb_ret ?_))
    (apply ends_ok; (case h1 => simp; exact is_rfl); (case h2 => simp; exact is_rfl))
    simp
  rw [decide_eq_true h1] at v1
  by_cases h2 : UsuP w
  case neg =>
    rw [decide_eq_false h2] at v2
    (refine gives_iff ?_; refine go_func Try.f5 rfl rfl (by simp [Try.f5]) ?_; dsimp only [codeL, Try.f5, scL, sopsL, guardL, dstAt, loopKey])
    (repeat (first
    | (apply is_ok; (case hw => simp [v1, v2]); (case he => simp [v1, v2]; exact is_rfl))
    | (apply op_no; (case hw => simp [v1, v2]))
    | refine op_nil ?_ | refine next_normal ?_ | refine go_seq ?_ | refine go_region ?_ | refine go_skip ?_ | refine go_block ?_ | refine inb_normal ?_
    | (apply go_yes; (case hc => simp [v1, v2])) | (apply go_no; (case hc => simp [v1, v2]))
    | refine go_exit ?_ | refine next_exit ?_ | refine inb_here ?_ | refine inb_past (by decide) ?_ | refine go_ret ?_ | refine next_ret ?_ | refine inb_ret ?_))
    (apply ends_ok; (case h1 => simp; exact is_rfl); (case h2 => simp; exact is_rfl))
    simp
  rw [decide_eq_true h2] at v2
  by_cases h3 : 200 < w.2
  · (refine gives_iff ?_; refine go_func Try.f5 rfl rfl (by simp [Try.f5]) ?_; dsimp only [codeL, Try.f5, scL, sopsL, guardL, dstAt, loopKey])
    (repeat (first
    | (apply is_ok; (case hw => simp [v1, v2, h3]); (case he => simp [v1, v2, h3]; exact is_rfl))
    | (apply op_no; (case hw => simp [v1, v2, h3]))
    | refine op_nil ?_ | refine next_normal ?_ | refine go_seq ?_ | refine go_region ?_ | refine go_skip ?_ | refine go_block ?_ | refine inb_normal ?_
    | (apply go_yes; (case hc => simp [v1, v2, h3])) | (apply go_no; (case hc => simp [v1, v2, h3]))
    | refine go_exit ?_ | refine next_exit ?_ | refine inb_here ?_ | refine inb_past (by decide) ?_ | refine go_ret ?_ | refine next_ret ?_ | refine inb_ret ?_))
    (apply ends_ok; (case h1 => simp; exact is_rfl); (case h2 => simp; exact is_rfl))
    simp
  by_cases h4 : k < 1
  · (refine gives_iff ?_; refine go_func Try.f5 rfl rfl (by simp [Try.f5]) ?_; dsimp only [codeL, Try.f5, scL, sopsL, guardL, dstAt, loopKey])
    (repeat (first
    | (apply is_ok; (case hw => simp [v1, v2, h3, h4]); (case he => simp [v1, v2, h3, h4]; exact is_rfl))
    | (apply op_no; (case hw => simp [v1, v2, h3, h4]))
    | refine op_nil ?_ | refine next_normal ?_ | refine go_seq ?_ | refine go_region ?_ | refine go_skip ?_ | refine go_block ?_ | refine inb_normal ?_
    | (apply go_yes; (case hc => simp [v1, v2, h3, h4])) | (apply go_no; (case hc => simp [v1, v2, h3, h4]))
    | refine go_exit ?_ | refine next_exit ?_ | refine inb_here ?_ | refine inb_past (by decide) ?_ | refine go_ret ?_ | refine next_ret ?_ | refine inb_ret ?_))
    (apply ends_ok; (case h1 => simp; exact is_rfl); (case h2 => simp; exact is_rfl))
    simp
  by_cases h5 : 300 < k
  · (refine gives_iff ?_; refine go_func Try.f5 rfl rfl (by simp [Try.f5]) ?_; dsimp only [codeL, Try.f5, scL, sopsL, guardL, dstAt, loopKey])
    (repeat (first
    | (apply is_ok; (case hw => simp [v1, v2, h3, h4, h5]); (case he => simp [v1, v2, h3, h4, h5]; exact is_rfl))
    | (apply op_no; (case hw => simp [v1, v2, h3, h4, h5]))
    | refine op_nil ?_ | refine next_normal ?_ | refine go_seq ?_ | refine go_region ?_ | refine go_skip ?_ | refine go_block ?_ | refine inb_normal ?_
    | (apply go_yes; (case hc => simp [v1, v2, h3, h4, h5])) | (apply go_no; (case hc => simp [v1, v2, h3, h4, h5]))
    | refine go_exit ?_ | refine next_exit ?_ | refine inb_here ?_ | refine inb_past (by decide) ?_ | refine go_ret ?_ | refine next_ret ?_ | refine inb_ret ?_))
    (apply ends_ok; (case h1 => simp; exact is_rfl); (case h2 => simp; exact is_rfl))
    simp
  have v3 := Fit_eq' l h1.1 h1.2 w h2 k
  obtain ⟨p1, p2⟩ := fit_least (l := l) (w := w) (k := k) (by omega)
  have hl100 := h1.1
  have hb := h1.2
  obtain ⟨z1, z2, z3, z4⟩ := h2
  obtain ⟨a, b, e1, e2⟩ : ∃ a b, fitV l w k = .tuple [.int .i64 a, .bool b] ∧ ((b = true ∧ fitN l w k = some a) ∨ (b = false ∧ a = 0 ∧ fitN l w k = none)) := by
    unfold fitV
    cases hc : fitN l w k with
    | some n => exact ⟨n, true, rfl, .inl ⟨rfl, rfl⟩⟩
    | none => exact ⟨0, false, rfl, .inr ⟨rfl, rfl, rfl⟩⟩
  rw [e1] at v3
  have ww : IntKind.i64.wrap (w.1 + w.2) = w.1 + w.2 := wrap_id (by omega) (by omega)
  (refine gives_iff ?_; refine go_func Try.f5 rfl rfl (by simp [Try.f5]) ?_; dsimp only [codeL, Try.f5, scL, sopsL, guardL, dstAt, loopKey])
  (repeat (first
    | (apply is_ok; (case hw => simp [v1, v2, h3, h4, h5, v3]); (case he => simp [v1, v2, h3, h4, h5, v3]; exact is_rfl))
    | (apply op_no; (case hw => simp [v1, v2, h3, h4, h5, v3]))
    | refine op_nil ?_ | refine next_normal ?_ | refine go_seq ?_ | refine go_region ?_ | refine go_skip ?_ | refine go_block ?_ | refine inb_normal ?_
    | (apply go_yes; (case hc => simp [v1, v2, h3, h4, h5, v3])) | (apply go_no; (case hc => simp [v1, v2, h3, h4, h5, v3]))
    | refine go_exit ?_ | refine next_exit ?_ | refine inb_here ?_ | refine inb_past (by decide) ?_ | refine go_ret ?_ | refine next_ret ?_ | refine inb_ret ?_))
  refine go_count 300 (fun t => [(0, .sl (l.map exV)), (2, .int .i64 k), (4, .ptr 0 1 0 0), (7, .int .i64 a), (8, .bool b), (9, .int .i64 (w.1 + (t : Int)))]) (fun _ => [.box (.agg [.int .i64 w.1, .int .i64 w.2])]) (fun t => ∀ s : Nat, s < t → ¬ roomP l w k (w.1 + (s : Int))) (by simp) (fun s h => absurd h (Nat.not_lt_zero s)) fun t ht hI => ?_
  obtain ⟨n, hn⟩ : ∃ n, n = w.1 + (t : Int) := ⟨_, rfl⟩
  have hn1 : w.1 + ((t + 1 : Nat) : Int) = n + 1 := by omega
  rw [hn1, ← hn]
  have w1 : IntKind.i64.wrap (n + k) = n + k := wrap_id (by omega) (by omega)
  have w2 : IntKind.i64.wrap (n + 1) = n + 1 := wrap_id (by omega) (by omega)
  by_cases c1 : n + k ≤ w.1 + w.2
  · (repeat (first
    | (apply is_ok; (case hw => simp [c1, w1, ww]); (case he => simp [c1, w1, ww]; exact is_rfl))
    | (apply op_no; (case hw => simp [c1, w1, ww]))
    | refine op_nil ?_ | refine next_normal ?_ | refine go_seq ?_ | refine go_region ?_ | refine go_skip ?_ | refine go_block ?_ | refine inb_normal ?_
    | (apply go_yes; (case hc => simp [c1, w1, ww])) | (apply go_no; (case hc => simp [c1, w1, ww]))
    | refine go_exit ?_ | refine next_exit ?_ | refine inb_here ?_ | refine inb_past (by decide) ?_ | refine go_ret ?_ | refine next_ret ?_ | refine inb_ret ?_))
    refine go_count l.length (fun i => [(0, .sl (l.map exV)), (2, .int .i64 k), (4, .ptr 0 1 0 0), (7, .int .i64 a), (8, .bool b), (9, .int .i64 n), (10, .bool ((l.take i).all fun y => !decide (meetP (n, k) y))), (11, .int .i64 i)]) (fun _ => [.box (.agg [.int .i64 w.1, .int .i64 w.2])]) (fun _ => True) (by simp) trivial fun i hi _ => ?_
    by_cases hlt : i < l.length
    · have g1 : (i : Int) < l.length := by omega
      have g2 : l[i]? = some l[i] := List.getElem?_eq_getElem hlt
      have w3 : IntKind.i64.wrap ((i : Int) + 1) = (i : Int) + 1 := wrap_id (by omega) (by omega)
      obtain ⟨a1, a2, a3, a4⟩ := hb l[i] (List.getElem_mem hlt)
      have w4 : IntKind.i64.wrap (l[i].1 + l[i].2) = l[i].1 + l[i].2 := wrap_id (by omega) (by omega)
      have htk : ((l.take (i + 1)).all fun y => !decide (meetP (n, k) y)) = (((l.take i).all fun y => !decide (meetP (n, k) y)) && !decide (meetP (n, k) l[i])) := by
        rw [List.take_succ_eq_append_getElem hlt, List.all_append, List.all_cons, List.all_nil, Bool.and_true]
      rw [htk]
      generalize ((l.take i).all fun y => !decide (meetP (n, k) y)) = bb
      by_cases d1 : 0 < l[i].2
      · by_cases d2 : l[i].1 < n + k
        · by_cases d3 : n < l[i].1 + l[i].2
          · have hm : meetP (n, k) l[i] := ⟨by dsimp only; omega, d1, d3, d2⟩
            rw [decide_eq_true hm, Bool.not_true, Bool.and_false]
            (repeat (first
    | (apply is_ok; (case hw => simp [g1, g2, hlt, w1, w3, w4, d1, d2, d3, exV]); (case he => simp [g1, g2, hlt, w1, w3, w4, d1, d2, d3, exV]; exact is_rfl))
    | (apply op_no; (case hw => simp [g1, g2, hlt, w1, w3, w4, d1, d2, d3, exV]))
    | refine op_nil ?_ | refine next_normal ?_ | refine go_seq ?_ | refine go_region ?_ | refine go_skip ?_ | refine go_block ?_ | refine inb_normal ?_
    | (apply go_yes; (case hc => simp [g1, g2, hlt, w1, w3, w4, d1, d2, d3, exV])) | (apply go_no; (case hc => simp [g1, g2, hlt, w1, w3, w4, d1, d2, d3, exV]))
    | refine go_exit ?_ | refine next_exit ?_ | refine inb_here ?_ | refine inb_past (by decide) ?_ | refine go_ret ?_ | refine next_ret ?_ | refine inb_ret ?_))
            exact ⟨hlt, by simp [exV, w3], trivial⟩
          · have hm : ¬ meetP (n, k) l[i] := fun h => d3 h.2.2.1
            rw [decide_eq_false hm, Bool.not_false, Bool.and_true]
            (repeat (first
    | (apply is_ok; (case hw => simp [g1, g2, hlt, w1, w3, w4, d1, d2, d3, exV]); (case he => simp [g1, g2, hlt, w1, w3, w4, d1, d2, d3, exV]; exact is_rfl))
    | (apply op_no; (case hw => simp [g1, g2, hlt, w1, w3, w4, d1, d2, d3, exV]))
    | refine op_nil ?_ | refine next_normal ?_ | refine go_seq ?_ | refine go_region ?_ | refine go_skip ?_ | refine go_block ?_ | refine inb_normal ?_
    | (apply go_yes; (case hc => simp [g1, g2, hlt, w1, w3, w4, d1, d2, d3, exV])) | (apply go_no; (case hc => simp [g1, g2, hlt, w1, w3, w4, d1, d2, d3, exV]))
    | refine go_exit ?_ | refine next_exit ?_ | refine inb_here ?_ | refine inb_past (by decide) ?_ | refine go_ret ?_ | refine next_ret ?_ | refine inb_ret ?_))
            exact ⟨hlt, by simp [exV, w3], trivial⟩
        · have hm : ¬ meetP (n, k) l[i] := fun h => d2 h.2.2.2
          rw [decide_eq_false hm, Bool.not_false, Bool.and_true]
          (repeat (first
    | (apply is_ok; (case hw => simp [g1, g2, hlt, w1, w3, w4, d1, d2, exV]); (case he => simp [g1, g2, hlt, w1, w3, w4, d1, d2, exV]; exact is_rfl))
    | (apply op_no; (case hw => simp [g1, g2, hlt, w1, w3, w4, d1, d2, exV]))
    | refine op_nil ?_ | refine next_normal ?_ | refine go_seq ?_ | refine go_region ?_ | refine go_skip ?_ | refine go_block ?_ | refine inb_normal ?_
    | (apply go_yes; (case hc => simp [g1, g2, hlt, w1, w3, w4, d1, d2, exV])) | (apply go_no; (case hc => simp [g1, g2, hlt, w1, w3, w4, d1, d2, exV]))
    | refine go_exit ?_ | refine next_exit ?_ | refine inb_here ?_ | refine inb_past (by decide) ?_ | refine go_ret ?_ | refine next_ret ?_ | refine inb_ret ?_))
          exact ⟨hlt, by simp [exV, w3], trivial⟩
      · have hm : ¬ meetP (n, k) l[i] := fun h => d1 h.2.1
        rw [decide_eq_false hm, Bool.not_false, Bool.and_true]
        (repeat (first
    | (apply is_ok; (case hw => simp [g1, g2, hlt, w1, w3, w4, d1, exV]); (case he => simp [g1, g2, hlt, w1, w3, w4, d1, exV]; exact is_rfl))
    | (apply op_no; (case hw => simp [g1, g2, hlt, w1, w3, w4, d1, exV]))
    | refine op_nil ?_ | refine next_normal ?_ | refine go_seq ?_ | refine go_region ?_ | refine go_skip ?_ | refine go_block ?_ | refine inb_normal ?_
    | (apply go_yes; (case hc => simp [g1, g2, hlt, w1, w3, w4, d1, exV])) | (apply go_no; (case hc => simp [g1, g2, hlt, w1, w3, w4, d1, exV]))
    | refine go_exit ?_ | refine next_exit ?_ | refine inb_here ?_ | refine inb_past (by decide) ?_ | refine go_ret ?_ | refine next_ret ?_ | refine inb_ret ?_))
        exact ⟨hlt, by simp [exV, w3], trivial⟩
    · have : i = l.length := by omega
      subst this
      have g1 : ¬ (l.length : Int) < l.length := by omega
      rw [List.take_length]
      by_cases hr : ∀ y ∈ l, ¬ meetP (n, k) y
      · have hroom : roomP l w k n := ⟨hr, by omega, c1⟩
        rw [show (l.all fun y => !decide (meetP (n, k) y)) = true by rw [List.all_eq_true]; exact fun y hy => by simpa using hr y hy]
        obtain ⟨rfl, ha⟩ : b = true ∧ a = n := by
          rcases e2 with ⟨hb1, hf⟩ | ⟨_, _, hf⟩
          · refine ⟨hb1, ?_⟩
            obtain ⟨q1, q2⟩ := p1 a hf
            have q3 := q2 n hroom
            rcases Int.lt_or_eq_of_le q3 with q4 | q4
            · have q5 := q1.2.1
              have e : a = w.1 + ((a - w.1).toNat : Int) := by omega
              rw [e] at q1
              exact absurd q1 (hI _ (by omega))
            · exact q4
          · exact absurd hroom (p2 hf n)
        subst ha
        (repeat (first
    | (apply is_ok; (case hw => simp [g1, alive45_eq]); (case he => simp [g1, alive45_eq]; exact is_rfl))
    | (apply op_no; (case hw => simp [g1, alive45_eq]))
    | refine op_nil ?_ | refine next_normal ?_ | refine go_seq ?_ | refine go_region ?_ | refine go_skip ?_ | refine go_block ?_ | refine inb_normal ?_
    | (apply go_yes; (case hc => simp [g1, alive45_eq])) | (apply go_no; (case hc => simp [g1, alive45_eq]))
    | refine go_exit ?_ | refine next_exit ?_ | refine inb_here ?_ | refine inb_past (by decide) ?_ | refine go_ret ?_ | refine next_ret ?_ | refine inb_ret ?_))
        (apply ends_ok; (case h1 => simp; exact is_rfl); (case h2 => simp; exact is_rfl))
        simp
      · rw [show (l.all fun y => !decide (meetP (n, k) y)) = false by rw [Bool.eq_false_iff]; intro h; rw [List.all_eq_true] at h; exact hr fun y hy => by simpa using h y hy]
        have hno : ¬ roomP l w k n := fun h => hr h.1
        (repeat (first
    | (apply is_ok; (case hw => simp [g1, w2]); (case he => simp [g1, w2]; exact is_rfl))
    | (apply op_no; (case hw => simp [g1, w2]))
    | refine op_nil ?_ | refine next_normal ?_ | refine go_seq ?_ | refine go_region ?_ | refine go_skip ?_ | refine go_block ?_ | refine inb_normal ?_
    | (apply go_yes; (case hc => simp [g1, w2])) | (apply go_no; (case hc => simp [g1, w2]))
    | refine go_exit ?_ | refine next_exit ?_ | refine inb_here ?_ | refine inb_past (by decide) ?_ | refine go_ret ?_ | refine next_ret ?_ | refine inb_ret ?_))
        refine ⟨by omega, by simp [w2], fun s hs => ?_⟩
        rcases Nat.lt_or_ge s t with h | h
        · exact hI s h
        · have : s = t := by omega
          subst this
          rw [← hn]
          exact hno
  · obtain ⟨rfl, rfl⟩ : b = false ∧ a = 0 := by
      rcases e2 with ⟨_, hf⟩ | ⟨h1, h2, _⟩
      · obtain ⟨q1, _⟩ := p1 a hf
        have q5 := q1.2.1
        have q6 := q1.2.2
        have e : a = w.1 + ((a - w.1).toNat : Int) := by omega
        rw [e] at q1
        exact absurd q1 (hI _ (by omega))
      · exact ⟨h1, h2⟩
    (repeat (first
    | (apply is_ok; (case hw => simp [c1, w1, ww, alive45_eq]); (case he => simp [c1, w1, ww, alive45_eq]; exact is_rfl))
    | (apply op_no; (case hw => simp [c1, w1, ww, alive45_eq]))
    | refine op_nil ?_ | refine next_normal ?_ | refine go_seq ?_ | refine go_region ?_ | refine go_skip ?_ | refine go_block ?_ | refine inb_normal ?_
    | (apply go_yes; (case hc => simp [c1, w1, ww, alive45_eq])) | (apply go_no; (case hc => simp [c1, w1, ww, alive45_eq]))
    | refine go_exit ?_ | refine next_exit ?_ | refine inb_here ?_ | refine inb_past (by decide) ?_ | refine go_ret ?_ | refine next_ret ?_ | refine inb_ret ?_))
    (apply ends_ok; (case h1 => simp; exact is_rfl); (case h2 => simp; exact is_rfl))
    simp
end Go.Abs

namespace Go.Abs
open Go.Proofs
set_option maxRecDepth 100000
set_option linter.unusedSimpArgs false
set_option linter.unusedVariables false

/-- The sectors of an image. -/
def secN (n : Int) : Int := if n < 1 then 0 else n / 2 + n % 2
theorem Sectors_eq (n : Int) (hn : -9223372036854775808 ≤ n ∧ n ≤ 9223372036854775807) : bodyW DC 13 [.int .i64 n] [] = some (.int .i64 (secN n), []) := by
  unfold secN
  by_cases h1 : n < 1
  · rw [if_pos h1]
    have e : max n 0 = 0 := by omega
    (refine gives_iff ?_; refine go_func Try.f13 rfl rfl (by simp [Try.f13]) ?_; dsimp only [codeL, Try.f13, scL, sopsL, guardL, dstAt, loopKey])
    (repeat (first
    | (apply is_ok; (case hw => simp [e]); (case he => simp [e]; exact is_rfl))
    | (apply op_no; (case hw => simp [e]))
    | refine op_nil ?_ | refine next_normal ?_ | refine go_seq ?_ | refine go_region ?_ | refine go_skip ?_ | refine go_block ?_ | refine inb_normal ?_
    | (apply go_yes; (case hc => simp [e])) | (apply go_no; (case hc => simp [e]))
    | refine go_exit ?_ | refine next_exit ?_ | refine inb_here ?_ | refine inb_past (by decide) ?_ | refine go_ret ?_ | refine next_ret ?_ | refine inb_ret ?_))
    (apply ends_ok; (case h1 => simp; exact is_rfl); (case h2 => simp; exact is_rfl))
    simp
  · rw [if_neg h1]
    have e : max n 0 = n := by omega
    have q1 : n.tdiv 2 = n / 2 := Int.tdiv_eq_ediv_of_nonneg (by omega)
    have q2 : n.tmod 2 = n % 2 := Int.tmod_eq_emod_of_nonneg (by omega)
    have w1 : IntKind.i64.wrap (n / 2) = n / 2 := wrap_id (by omega) (by omega)
    have w2 : IntKind.i64.wrap (n / 2 + n % 2) = n / 2 + n % 2 := wrap_id (by omega) (by omega)
    (refine gives_iff ?_; refine go_func Try.f13 rfl rfl (by simp [Try.f13]) ?_; dsimp only [codeL, Try.f13, scL, sopsL, guardL, dstAt, loopKey])
    (repeat (first
    | (apply is_ok; (case hw => simp [e, q1, q2, w1, w2]); (case he => simp [e, q1, q2, w1, w2]; exact is_rfl))
    | (apply op_no; (case hw => simp [e, q1, q2, w1, w2]))
    | refine op_nil ?_ | refine next_normal ?_ | refine go_seq ?_ | refine go_region ?_ | refine go_skip ?_ | refine go_block ?_ | refine inb_normal ?_
    | (apply go_yes; (case hc => simp [e, q1, q2, w1, w2])) | (apply go_no; (case hc => simp [e, q1, q2, w1, w2]))
    | refine go_exit ?_ | refine next_exit ?_ | refine inb_here ?_ | refine inb_past (by decide) ?_ | refine go_ret ?_ | refine next_ret ?_ | refine inb_ret ?_))
    (apply ends_ok; (case h1 => simp; exact is_rfl); (case h2 => simp; exact is_rfl))
    simp
theorem SectorsR_eq (n : Int) (hn : -9223372036854775808 ≤ n ∧ n ≤ 9223372036854775807) : bodyW DC 14 [.int .i64 n] [] = some (.int .i64 (secN n), []) := by
  unfold secN
  by_cases h1 : n < 1
  · rw [if_pos h1]
    (refine gives_iff ?_; refine go_func Try.f14 rfl rfl (by simp [Try.f14]) ?_; dsimp only [codeL, Try.f14, scL, sopsL, guardL, dstAt, loopKey])
    (repeat (first
    | (apply is_ok; (case hw => simp [h1]); (case he => simp [h1]; exact is_rfl))
    | (apply op_no; (case hw => simp [h1]))
    | refine op_nil ?_ | refine next_normal ?_ | refine go_seq ?_ | refine go_region ?_ | refine go_skip ?_ | refine go_block ?_ | refine inb_normal ?_
    | (apply go_yes; (case hc => simp [h1])) | (apply go_no; (case hc => simp [h1]))
    | refine go_exit ?_ | refine next_exit ?_ | refine inb_here ?_ | refine inb_past (by decide) ?_ | refine go_ret ?_ | refine next_ret ?_ | refine inb_ret ?_))
    (apply ends_ok; (case h1 => simp; exact is_rfl); (case h2 => simp; exact is_rfl))
    simp
  · rw [if_neg h1]
    have q1 : n.tdiv 2 = n / 2 := Int.tdiv_eq_ediv_of_nonneg (by omega)
    have q2 : n.tmod 2 = n % 2 := Int.tmod_eq_emod_of_nonneg (by omega)
    have w1 : IntKind.i64.wrap (n / 2) = n / 2 := wrap_id (by omega) (by omega)
    have w2 : IntKind.i64.wrap (n / 2 + n % 2) = n / 2 + n % 2 := wrap_id (by omega) (by omega)
    (refine gives_iff ?_; refine go_func Try.f14 rfl rfl (by simp [Try.f14]) ?_; dsimp only [codeL, Try.f14, scL, sopsL, guardL, dstAt, loopKey])
    (repeat (first
    | (apply is_ok; (case hw => simp [h1, q1, q2, w1, w2]); (case he => simp [h1, q1, q2, w1, w2]; exact is_rfl))
    | (apply op_no; (case hw => simp [h1, q1, q2, w1, w2]))
    | refine op_nil ?_ | refine next_normal ?_ | refine go_seq ?_ | refine go_region ?_ | refine go_skip ?_ | refine go_block ?_ | refine inb_normal ?_
    | (apply go_yes; (case hc => simp [h1, q1, q2, w1, w2])) | (apply go_no; (case hc => simp [h1, q1, q2, w1, w2]))
    | refine go_exit ?_ | refine next_exit ?_ | refine inb_here ?_ | refine inb_past (by decide) ?_ | refine go_ret ?_ | refine next_ret ?_ | refine inb_ret ?_))
    (apply ends_ok; (case h1 => simp; exact is_rfl); (case h2 => simp; exact is_rfl))
    simp
end Go.Abs

namespace Go.Abs
open Go.Proofs
set_option maxRecDepth 100000
set_option linter.unusedSimpArgs false
set_option linter.unusedVariables false

def coreL (ps : List Pr) : List Ex := (ps.filter fun p => decide (hasP p) && !p.swd).map fun p => (p.base, p.blk)
def swpL (ps : List Pr) : List Ex := (ps.filter fun p => decide (hasP p) && p.swd).map fun p => (p.base, secN p.blk)
theorem coreL_snoc (ps : List Pr) (p : Pr) : coreL (ps ++ [p]) = coreL ps ++ (if hasP p ∧ p.swd = false then [(p.base, p.blk)] else []) := by
  unfold coreL
  by_cases h1 : hasP p <;> cases h2 : p.swd <;> simp [h1, h2, List.filter_append]
theorem swpL_snoc (ps : List Pr) (p : Pr) : swpL (ps ++ [p]) = swpL ps ++ (if hasP p ∧ p.swd = true then [(p.base, secN p.blk)] else []) := by
  unfold swpL
  by_cases h1 : hasP p <;> cases h2 : p.swd <;> simp [h1, h2, List.filter_append]

@[simp] theorem coreL_nil : coreL [] = [] := rfl
@[simp] theorem swpL_nil : swpL [] = [] := rfl
theorem coreL_len (ps : List Pr) : (coreL ps).length ≤ ps.length := by unfold coreL; rw [List.length_map]; exact List.length_filter_le ..
theorem swpL_len (ps : List Pr) : (swpL ps).length ≤ ps.length := by unfold swpL; rw [List.length_map]; exact List.length_filter_le ..

theorem Core_eq (s : Sys) : bodyW DC 16 [.agg (prsC s.ps)] [] = some (.own 0 (coreL s.ps).length 0 (coreL s.ps).length, [.dat true 2 ((coreL s.ps).map exV)]) := by
  have hps := s.hps
  (refine gives_iff ?_; refine go_func Try.f16 rfl rfl (by simp [Try.f16]) ?_; dsimp only [codeL, Try.f16, scL, sopsL, guardL, dstAt, loopKey])
  (repeat (first
    | (apply is_ok; (case hw => simp); (case he => simp; exact is_rfl))
    | (apply op_no; (case hw => simp))
    | refine op_nil ?_ | refine next_normal ?_ | refine go_seq ?_ | refine go_region ?_ | refine go_skip ?_ | refine go_block ?_ | refine inb_normal ?_
    | (apply go_yes; (case hc => simp)) | (apply go_no; (case hc => simp))
    | refine go_exit ?_ | refine next_exit ?_ | refine inb_here ?_ | refine inb_past (by decide) ?_ | refine go_ret ?_ | refine next_ret ?_ | refine inb_ret ?_))
  refine go_count 8 (fun i => [(3, .own 0 (coreL (s.ps.take i)).length 0 (coreL (s.ps.take i)).length), (6, .agg (prsC s.ps)), (7, .int .i64 i)]) (fun i => [.dat true 2 ((coreL (s.ps.take i)).map exV)]) (fun _ => True) (by simp) trivial fun i hi _ => ?_
  by_cases hlt : i < 8
  · have g1 : (i : Int) < 8 := by omega
    have g2 : s.ps[i]? = some s.ps[i] := List.getElem?_eq_getElem (by omega)
    have w1 : IntKind.i64.wrap ((i : Int) + 1) = (i : Int) + 1 := wrap_id (by omega) (by omega)
    have e1 : s.ps.take (i + 1) = s.ps.take i ++ [s.ps[i]] := List.take_succ_eq_append_getElem (by omega)
    have v := hasImage_eq s.ps[i]
    rw [e1, coreL_snoc]
    have hr := coreL_len (s.ps.take i)
    rw [List.length_take] at hr
    have r1 : ((coreL (s.ps.take i)).length + 1) * 16 ≤ room := by unfold room; omega
    have r2 : (coreL (s.ps.take i)).length + 1 ≤ room := by unfold room; omega
    by_cases c1 : hasP s.ps[i]
    · rw [decide_eq_true c1] at v
      cases c2 : s.ps[i].swd with
      | false =>
        rw [if_pos ⟨c1, rfl⟩]
        (repeat (first
    | (apply is_ok; (case hw => simp [g1, g2, hlt, v, c2, w1, r1, r2]); (case he => simp [g1, g2, hlt, v, c2, w1, r1, r2]; exact is_rfl))
    | (apply op_no; (case hw => simp [g1, g2, hlt, v, c2, w1, r1, r2]))
    | refine op_nil ?_ | refine next_normal ?_ | refine go_seq ?_ | refine go_region ?_ | refine go_skip ?_ | refine go_block ?_ | refine inb_normal ?_
    | (apply go_yes; (case hc => simp [g1, g2, hlt, v, c2, w1, r1, r2])) | (apply go_no; (case hc => simp [g1, g2, hlt, v, c2, w1, r1, r2]))
    | refine go_exit ?_ | refine next_exit ?_ | refine inb_here ?_ | refine inb_past (by decide) ?_ | refine go_ret ?_ | refine next_ret ?_ | refine inb_ret ?_))
        exact ⟨hlt, by simp [w1, exV], trivial⟩
      | true =>
        rw [if_neg (fun h => by cases h.2)]
        (repeat (first
    | (apply is_ok; (case hw => simp [g1, g2, hlt, v, c2, w1, r1, r2]); (case he => simp [g1, g2, hlt, v, c2, w1, r1, r2]; exact is_rfl))
    | (apply op_no; (case hw => simp [g1, g2, hlt, v, c2, w1, r1, r2]))
    | refine op_nil ?_ | refine next_normal ?_ | refine go_seq ?_ | refine go_region ?_ | refine go_skip ?_ | refine go_block ?_ | refine inb_normal ?_
    | (apply go_yes; (case hc => simp [g1, g2, hlt, v, c2, w1, r1, r2])) | (apply go_no; (case hc => simp [g1, g2, hlt, v, c2, w1, r1, r2]))
    | refine go_exit ?_ | refine next_exit ?_ | refine inb_here ?_ | refine inb_past (by decide) ?_ | refine go_ret ?_ | refine next_ret ?_ | refine inb_ret ?_))
        exact ⟨hlt, by simp [w1], trivial⟩
    · rw [decide_eq_false c1] at v
      rw [if_neg (fun h => c1 h.1)]
      (repeat (first
    | (apply is_ok; (case hw => simp [g1, g2, hlt, v, w1, r1, r2]); (case he => simp [g1, g2, hlt, v, w1, r1, r2]; exact is_rfl))
    | (apply op_no; (case hw => simp [g1, g2, hlt, v, w1, r1, r2]))
    | refine op_nil ?_ | refine next_normal ?_ | refine go_seq ?_ | refine go_region ?_ | refine go_skip ?_ | refine go_block ?_ | refine inb_normal ?_
    | (apply go_yes; (case hc => simp [g1, g2, hlt, v, w1, r1, r2])) | (apply go_no; (case hc => simp [g1, g2, hlt, v, w1, r1, r2]))
    | refine go_exit ?_ | refine next_exit ?_ | refine inb_here ?_ | refine inb_past (by decide) ?_ | refine go_ret ?_ | refine next_ret ?_ | refine inb_ret ?_))
      exact ⟨hlt, by simp [w1], trivial⟩
  · have : i = 8 := by omega
    subst this
    rw [List.take_of_length_le (by omega)]
    (repeat (first
    | (apply is_ok; (case hw => simp); (case he => simp; exact is_rfl))
    | (apply op_no; (case hw => simp))
    | refine op_nil ?_ | refine next_normal ?_ | refine go_seq ?_ | refine go_region ?_ | refine go_skip ?_ | refine go_block ?_ | refine inb_normal ?_
    | (apply go_yes; (case hc => simp)) | (apply go_no; (case hc => simp))
    | refine go_exit ?_ | refine next_exit ?_ | refine inb_here ?_ | refine inb_past (by decide) ?_ | refine go_ret ?_ | refine next_ret ?_ | refine inb_ret ?_))
    (apply ends_ok; (case h1 => simp; exact is_rfl); (case h2 => simp; exact is_rfl))
    simp
theorem CoreR_eq (s : Sys) : bodyW DC 17 [.agg (prsC s.ps)] [] = some (.own 0 (coreL s.ps).length 0 (coreL s.ps).length, [.dat true 2 ((coreL s.ps).map exV)]) := by
  have hps := s.hps
  (refine gives_iff ?_; refine go_func Try.f17 rfl rfl (by simp [Try.f17]) ?_; dsimp only [codeL, Try.f17, scL, sopsL, guardL, dstAt, loopKey])
  (repeat (first
    | (apply is_ok; (case hw => simp); (case he => simp; exact is_rfl))
    | (apply op_no; (case hw => simp))
    | refine op_nil ?_ | refine next_normal ?_ | refine go_seq ?_ | refine go_region ?_ | refine go_skip ?_ | refine go_block ?_ | refine inb_normal ?_
    | (apply go_yes; (case hc => simp)) | (apply go_no; (case hc => simp))
    | refine go_exit ?_ | refine next_exit ?_ | refine inb_here ?_ | refine inb_past (by decide) ?_ | refine go_ret ?_ | refine next_ret ?_ | refine inb_ret ?_))
  refine go_count 8 (fun i => [(1, .ptr 0 1 0 0), (3, .own 1 (coreL (s.ps.take i)).length 0 (coreL (s.ps.take i)).length), (4, .int .i64 i)]) (fun i => [.box (.agg (prsC s.ps)), .dat true 2 ((coreL (s.ps.take i)).map exV)]) (fun _ => True) (by simp) trivial fun i hi _ => ?_
  by_cases hlt : i < 8
  · have g1 : (i : Int) < 8 := by omega
    have g2 : s.ps[i]? = some s.ps[i] := List.getElem?_eq_getElem (by omega)
    have w1 : IntKind.i64.wrap ((i : Int) + 1) = (i : Int) + 1 := wrap_id (by omega) (by omega)
    have e1 : s.ps.take (i + 1) = s.ps.take i ++ [s.ps[i]] := List.take_succ_eq_append_getElem (by omega)
    have v := hasR_eq s.ps[i]
    rw [e1, coreL_snoc]
    have hr := coreL_len (s.ps.take i)
    rw [List.length_take] at hr
    have r1 : ((coreL (s.ps.take i)).length + 1) * 16 ≤ room := by unfold room; omega
    have r2 : (coreL (s.ps.take i)).length + 1 ≤ room := by unfold room; omega
    by_cases c1 : hasP s.ps[i]
    · rw [decide_eq_true c1] at v
      cases c2 : s.ps[i].swd with
      | false =>
        rw [if_pos ⟨c1, rfl⟩]
        (repeat (first
    | (apply is_ok; (case hw => simp [g1, g2, hlt, v, c2, w1, r1, r2]); (case he => simp [g1, g2, hlt, v, c2, w1, r1, r2]; exact is_rfl))
    | (apply op_no; (case hw => simp [g1, g2, hlt, v, c2, w1, r1, r2]))
    | refine op_nil ?_ | refine next_normal ?_ | refine go_seq ?_ | refine go_region ?_ | refine go_skip ?_ | refine go_block ?_ | refine inb_normal ?_
    | (apply go_yes; (case hc => simp [g1, g2, hlt, v, c2, w1, r1, r2])) | (apply go_no; (case hc => simp [g1, g2, hlt, v, c2, w1, r1, r2]))
    | refine go_exit ?_ | refine next_exit ?_ | refine inb_here ?_ | refine inb_past (by decide) ?_ | refine go_ret ?_ | refine next_ret ?_ | refine inb_ret ?_))
        exact ⟨hlt, by simp [w1, exV], trivial⟩
      | true =>
        rw [if_neg (fun h => by cases h.2)]
        (repeat (first
    | (apply is_ok; (case hw => simp [g1, g2, hlt, v, c2, w1, r1, r2]); (case he => simp [g1, g2, hlt, v, c2, w1, r1, r2]; exact is_rfl))
    | (apply op_no; (case hw => simp [g1, g2, hlt, v, c2, w1, r1, r2]))
    | refine op_nil ?_ | refine next_normal ?_ | refine go_seq ?_ | refine go_region ?_ | refine go_skip ?_ | refine go_block ?_ | refine inb_normal ?_
    | (apply go_yes; (case hc => simp [g1, g2, hlt, v, c2, w1, r1, r2])) | (apply go_no; (case hc => simp [g1, g2, hlt, v, c2, w1, r1, r2]))
    | refine go_exit ?_ | refine next_exit ?_ | refine inb_here ?_ | refine inb_past (by decide) ?_ | refine go_ret ?_ | refine next_ret ?_ | refine inb_ret ?_))
        exact ⟨hlt, by simp [w1], trivial⟩
    · rw [decide_eq_false c1] at v
      rw [if_neg (fun h => c1 h.1)]
      (repeat (first
    | (apply is_ok; (case hw => simp [g1, g2, hlt, v, w1, r1, r2]); (case he => simp [g1, g2, hlt, v, w1, r1, r2]; exact is_rfl))
    | (apply op_no; (case hw => simp [g1, g2, hlt, v, w1, r1, r2]))
    | refine op_nil ?_ | refine next_normal ?_ | refine go_seq ?_ | refine go_region ?_ | refine go_skip ?_ | refine go_block ?_ | refine inb_normal ?_
    | (apply go_yes; (case hc => simp [g1, g2, hlt, v, w1, r1, r2])) | (apply go_no; (case hc => simp [g1, g2, hlt, v, w1, r1, r2]))
    | refine go_exit ?_ | refine next_exit ?_ | refine inb_here ?_ | refine inb_past (by decide) ?_ | refine go_ret ?_ | refine next_ret ?_ | refine inb_ret ?_))
      exact ⟨hlt, by simp [w1], trivial⟩
  · have : i = 8 := by omega
    subst this
    rw [List.take_of_length_le (by omega)]
    (repeat (first
    | (apply is_ok; (case hw => simp); (case he => simp; exact is_rfl))
    | (apply op_no; (case hw => simp))
    | refine op_nil ?_ | refine next_normal ?_ | refine go_seq ?_ | refine go_region ?_ | refine go_skip ?_ | refine go_block ?_ | refine inb_normal ?_
    | (apply go_yes; (case hc => simp)) | (apply go_no; (case hc => simp))
    | refine go_exit ?_ | refine next_exit ?_ | refine inb_here ?_ | refine inb_past (by decide) ?_ | refine go_ret ?_ | refine next_ret ?_ | refine inb_ret ?_))
    (apply ends_ok; (case h1 => simp; exact is_rfl); (case h2 => simp; exact is_rfl))
    simp
theorem Swapped_eq (s : Sys) (hk : ∀ p ∈ s.ps, -9223372036854775808 ≤ p.blk ∧ p.blk ≤ 9223372036854775807) : bodyW DC 18 [.agg (prsC s.ps)] [] = some (.own 0 (swpL s.ps).length 0 (swpL s.ps).length, [.dat true 2 ((swpL s.ps).map exV)]) := by
  have hps := s.hps
  (refine gives_iff ?_; refine go_func Try.f18 rfl rfl (by simp [Try.f18]) ?_; dsimp only [codeL, Try.f18, scL, sopsL, guardL, dstAt, loopKey])
  (repeat (first
    | (apply is_ok; (case hw => simp); (case he => simp; exact is_rfl))
    | (apply op_no; (case hw => simp))
    | refine op_nil ?_ | refine next_normal ?_ | refine go_seq ?_ | refine go_region ?_ | refine go_skip ?_ | refine go_block ?_ | refine inb_normal ?_
    | (apply go_yes; (case hc => simp)) | (apply go_no; (case hc => simp))
    | refine go_exit ?_ | refine next_exit ?_ | refine inb_here ?_ | refine inb_past (by decide) ?_ | refine go_ret ?_ | refine next_ret ?_ | refine inb_ret ?_))
  refine go_count 8 (fun i => [(3, .own 0 (swpL (s.ps.take i)).length 0 (swpL (s.ps.take i)).length), (6, .agg (prsC s.ps)), (7, .int .i64 i)]) (fun i => [.dat true 2 ((swpL (s.ps.take i)).map exV)]) (fun _ => True) (by simp) trivial fun i hi _ => ?_
  by_cases hlt : i < 8
  · have g1 : (i : Int) < 8 := by omega
    have g2 : s.ps[i]? = some s.ps[i] := List.getElem?_eq_getElem (by omega)
    have w1 : IntKind.i64.wrap ((i : Int) + 1) = (i : Int) + 1 := wrap_id (by omega) (by omega)
    have e1 : s.ps.take (i + 1) = s.ps.take i ++ [s.ps[i]] := List.take_succ_eq_append_getElem (by omega)
    have v := hasImage_eq s.ps[i]
    have hb : -9223372036854775808 ≤ s.ps[i].blk ∧ s.ps[i].blk ≤ 9223372036854775807 := hk _ (List.getElem_mem _)
    have v2 := Sectors_eq s.ps[i].blk hb
    rw [e1, swpL_snoc]
    have hr := swpL_len (s.ps.take i)
    rw [List.length_take] at hr
    have r1 : ((swpL (s.ps.take i)).length + 1) * 16 ≤ room := by unfold room; omega
    have r2 : (swpL (s.ps.take i)).length + 1 ≤ room := by unfold room; omega
    by_cases c1 : hasP s.ps[i]
    · rw [decide_eq_true c1] at v
      cases c2 : s.ps[i].swd with
      | true =>
        rw [if_pos ⟨c1, rfl⟩]
        (repeat (first
    | (apply is_ok; (case hw => simp [g1, g2, hlt, v, v2, c2, w1, r1, r2]); (case he => simp [g1, g2, hlt, v, v2, c2, w1, r1, r2]; exact is_rfl))
    | (apply op_no; (case hw => simp [g1, g2, hlt, v, v2, c2, w1, r1, r2]))
    | refine op_nil ?_ | refine next_normal ?_ | refine go_seq ?_ | refine go_region ?_ | refine go_skip ?_ | refine go_block ?_ | refine inb_normal ?_
    | (apply go_yes; (case hc => simp [g1, g2, hlt, v, v2, c2, w1, r1, r2])) | (apply go_no; (case hc => simp [g1, g2, hlt, v, v2, c2, w1, r1, r2]))
    | refine go_exit ?_ | refine next_exit ?_ | refine inb_here ?_ | refine inb_past (by decide) ?_ | refine go_ret ?_ | refine next_ret ?_ | refine inb_ret ?_))
        exact ⟨hlt, by simp [w1, exV], trivial⟩
      | false =>
        rw [if_neg (fun h => by cases h.2)]
        (repeat (first
    | (apply is_ok; (case hw => simp [g1, g2, hlt, v, c2, w1, r1, r2]); (case he => simp [g1, g2, hlt, v, c2, w1, r1, r2]; exact is_rfl))
    | (apply op_no; (case hw => simp [g1, g2, hlt, v, c2, w1, r1, r2]))
    | refine op_nil ?_ | refine next_normal ?_ | refine go_seq ?_ | refine go_region ?_ | refine go_skip ?_ | refine go_block ?_ | refine inb_normal ?_
    | (apply go_yes; (case hc => simp [g1, g2, hlt, v, c2, w1, r1, r2])) | (apply go_no; (case hc => simp [g1, g2, hlt, v, c2, w1, r1, r2]))
    | refine go_exit ?_ | refine next_exit ?_ | refine inb_here ?_ | refine inb_past (by decide) ?_ | refine go_ret ?_ | refine next_ret ?_ | refine inb_ret ?_))
        exact ⟨hlt, by simp [w1], trivial⟩
    · rw [decide_eq_false c1] at v
      rw [if_neg (fun h => c1 h.1)]
      (repeat (first
    | (apply is_ok; (case hw => simp [g1, g2, hlt, v, w1, r1, r2]); (case he => simp [g1, g2, hlt, v, w1, r1, r2]; exact is_rfl))
    | (apply op_no; (case hw => simp [g1, g2, hlt, v, w1, r1, r2]))
    | refine op_nil ?_ | refine next_normal ?_ | refine go_seq ?_ | refine go_region ?_ | refine go_skip ?_ | refine go_block ?_ | refine inb_normal ?_
    | (apply go_yes; (case hc => simp [g1, g2, hlt, v, w1, r1, r2])) | (apply go_no; (case hc => simp [g1, g2, hlt, v, w1, r1, r2]))
    | refine go_exit ?_ | refine next_exit ?_ | refine inb_here ?_ | refine inb_past (by decide) ?_ | refine go_ret ?_ | refine next_ret ?_ | refine inb_ret ?_))
      exact ⟨hlt, by simp [w1], trivial⟩
  · have : i = 8 := by omega
    subst this
    rw [List.take_of_length_le (by omega)]
    (repeat (first
    | (apply is_ok; (case hw => simp); (case he => simp; exact is_rfl))
    | (apply op_no; (case hw => simp))
    | refine op_nil ?_ | refine next_normal ?_ | refine go_seq ?_ | refine go_region ?_ | refine go_skip ?_ | refine go_block ?_ | refine inb_normal ?_
    | (apply go_yes; (case hc => simp)) | (apply go_no; (case hc => simp))
    | refine go_exit ?_ | refine next_exit ?_ | refine inb_here ?_ | refine inb_past (by decide) ?_ | refine go_ret ?_ | refine next_ret ?_ | refine inb_ret ?_))
    (apply ends_ok; (case h1 => simp; exact is_rfl); (case h2 => simp; exact is_rfl))
    simp
theorem SwappedR_eq (s : Sys) (hk : ∀ p ∈ s.ps, -9223372036854775808 ≤ p.blk ∧ p.blk ≤ 9223372036854775807) : bodyW DC 19 [.agg (prsC s.ps)] [] = some (.own 0 (swpL s.ps).length 0 (swpL s.ps).length, [.dat true 2 ((swpL s.ps).map exV)]) := by
  have hps := s.hps
  (refine gives_iff ?_; refine go_func Try.f19 rfl rfl (by simp [Try.f19]) ?_; dsimp only [codeL, Try.f19, scL, sopsL, guardL, dstAt, loopKey])
  (repeat (first
    | (apply is_ok; (case hw => simp); (case he => simp; exact is_rfl))
    | (apply op_no; (case hw => simp))
    | refine op_nil ?_ | refine next_normal ?_ | refine go_seq ?_ | refine go_region ?_ | refine go_skip ?_ | refine go_block ?_ | refine inb_normal ?_
    | (apply go_yes; (case hc => simp)) | (apply go_no; (case hc => simp))
    | refine go_exit ?_ | refine next_exit ?_ | refine inb_here ?_ | refine inb_past (by decide) ?_ | refine go_ret ?_ | refine next_ret ?_ | refine inb_ret ?_))
  refine go_count 8 (fun i => [(1, .ptr 0 1 0 0), (3, .own 1 (swpL (s.ps.take i)).length 0 (swpL (s.ps.take i)).length), (4, .int .i64 i)]) (fun i => [.box (.agg (prsC s.ps)), .dat true 2 ((swpL (s.ps.take i)).map exV)]) (fun _ => True) (by simp) trivial fun i hi _ => ?_
  by_cases hlt : i < 8
  · have g1 : (i : Int) < 8 := by omega
    have g2 : s.ps[i]? = some s.ps[i] := List.getElem?_eq_getElem (by omega)
    have w1 : IntKind.i64.wrap ((i : Int) + 1) = (i : Int) + 1 := wrap_id (by omega) (by omega)
    have e1 : s.ps.take (i + 1) = s.ps.take i ++ [s.ps[i]] := List.take_succ_eq_append_getElem (by omega)
    have v := hasR_eq s.ps[i]
    have hb : -9223372036854775808 ≤ s.ps[i].blk ∧ s.ps[i].blk ≤ 9223372036854775807 := hk _ (List.getElem_mem _)
    have v2 := SectorsR_eq s.ps[i].blk hb
    rw [e1, swpL_snoc]
    have hr := swpL_len (s.ps.take i)
    rw [List.length_take] at hr
    have r1 : ((swpL (s.ps.take i)).length + 1) * 16 ≤ room := by unfold room; omega
    have r2 : (swpL (s.ps.take i)).length + 1 ≤ room := by unfold room; omega
    by_cases c1 : hasP s.ps[i]
    · rw [decide_eq_true c1] at v
      cases c2 : s.ps[i].swd with
      | true =>
        rw [if_pos ⟨c1, rfl⟩]
        (repeat (first
    | (apply is_ok; (case hw => simp [g1, g2, hlt, v, v2, c2, w1, r1, r2]); (case he => simp [g1, g2, hlt, v, v2, c2, w1, r1, r2]; exact is_rfl))
    | (apply op_no; (case hw => simp [g1, g2, hlt, v, v2, c2, w1, r1, r2]))
    | refine op_nil ?_ | refine next_normal ?_ | refine go_seq ?_ | refine go_region ?_ | refine go_skip ?_ | refine go_block ?_ | refine inb_normal ?_
    | (apply go_yes; (case hc => simp [g1, g2, hlt, v, v2, c2, w1, r1, r2])) | (apply go_no; (case hc => simp [g1, g2, hlt, v, v2, c2, w1, r1, r2]))
    | refine go_exit ?_ | refine next_exit ?_ | refine inb_here ?_ | refine inb_past (by decide) ?_ | refine go_ret ?_ | refine next_ret ?_ | refine inb_ret ?_))
        exact ⟨hlt, by simp [w1, exV], trivial⟩
      | false =>
        rw [if_neg (fun h => by cases h.2)]
        (repeat (first
    | (apply is_ok; (case hw => simp [g1, g2, hlt, v, c2, w1, r1, r2]); (case he => simp [g1, g2, hlt, v, c2, w1, r1, r2]; exact is_rfl))
    | (apply op_no; (case hw => simp [g1, g2, hlt, v, c2, w1, r1, r2]))
    | refine op_nil ?_ | refine next_normal ?_ | refine go_seq ?_ | refine go_region ?_ | refine go_skip ?_ | refine go_block ?_ | refine inb_normal ?_
    | (apply go_yes; (case hc => simp [g1, g2, hlt, v, c2, w1, r1, r2])) | (apply go_no; (case hc => simp [g1, g2, hlt, v, c2, w1, r1, r2]))
    | refine go_exit ?_ | refine next_exit ?_ | refine inb_here ?_ | refine inb_past (by decide) ?_ | refine go_ret ?_ | refine next_ret ?_ | refine inb_ret ?_))
        exact ⟨hlt, by simp [w1], trivial⟩
    · rw [decide_eq_false c1] at v
      rw [if_neg (fun h => c1 h.1)]
      (repeat (first
    | (apply is_ok; (case hw => simp [g1, g2, hlt, v, w1, r1, r2]); (case he => simp [g1, g2, hlt, v, w1, r1, r2]; exact is_rfl))
    | (apply op_no; (case hw => simp [g1, g2, hlt, v, w1, r1, r2]))
    | refine op_nil ?_ | refine next_normal ?_ | refine go_seq ?_ | refine go_region ?_ | refine go_skip ?_ | refine go_block ?_ | refine inb_normal ?_
    | (apply go_yes; (case hc => simp [g1, g2, hlt, v, w1, r1, r2])) | (apply go_no; (case hc => simp [g1, g2, hlt, v, w1, r1, r2]))
    | refine go_exit ?_ | refine next_exit ?_ | refine inb_here ?_ | refine inb_past (by decide) ?_ | refine go_ret ?_ | refine next_ret ?_ | refine inb_ret ?_))
      exact ⟨hlt, by simp [w1], trivial⟩
  · have : i = 8 := by omega
    subst this
    rw [List.take_of_length_le (by omega)]
    (repeat (first
    | (apply is_ok; (case hw => simp); (case he => simp; exact is_rfl))
    | (apply op_no; (case hw => simp))
    | refine op_nil ?_ | refine next_normal ?_ | refine go_seq ?_ | refine go_region ?_ | refine go_skip ?_ | refine go_block ?_ | refine inb_normal ?_
    | (apply go_yes; (case hc => simp)) | (apply go_no; (case hc => simp))
    | refine go_exit ?_ | refine next_exit ?_ | refine inb_here ?_ | refine inb_past (by decide) ?_ | refine go_ret ?_ | refine next_ret ?_ | refine inb_ret ?_))
    (apply ends_ok; (case h1 => simp; exact is_rfl); (case h2 => simp; exact is_rfl))
    simp
end Go.Abs

namespace Go.Abs
open Go.Proofs
set_option maxRecDepth 100000
set_option linter.unusedSimpArgs false
set_option linter.unusedVariables false

theorem ap1_eq (y x w : Ex) (hy : BigP y) (hx : BigP x) : bodyW DC 65 [.agg [.int .i64 y.1, .int .i64 y.2], .ptr 1 1 0 0] [.box (.agg [.int .i64 w.1, .int .i64 w.2]), .box (.agg [.int .i64 x.1, .int .i64 x.2])] =
    some (.bool (decide (meetP x y)), [.box (.agg [.int .i64 w.1, .int .i64 w.2]), .box (.agg [.int .i64 x.1, .int .i64 x.2])]) := by
  have v1 := meet_eq x y hx hy
  (refine gives_iff ?_; refine go_func Try.f65 rfl rfl (by simp [Try.f65]) ?_; dsimp only [codeL, Try.f65, scL, sopsL, guardL, dstAt, loopKey])
  (repeat (first
    | (apply is_ok; (case hw => simp [v1]); (case he => simp [v1]; exact is_rfl))
    | (apply op_no; (case hw => simp [v1]))
    | refine op_nil ?_ | refine next_normal ?_ | refine go_seq ?_ | refine go_region ?_ | refine go_skip ?_ | refine go_block ?_ | refine inb_normal ?_
    | (apply go_yes; (case hc => simp [v1])) | (apply go_no; (case hc => simp [v1]))
    | refine go_exit ?_ | refine next_exit ?_ | refine inb_here ?_ | refine inb_past (by decide) ?_ | refine go_ret ?_ | refine next_ret ?_ | refine inb_ret ?_))
  (apply ends_ok; (case h1 => simp; exact is_rfl); (case h2 => simp; exact is_rfl))
  simp

theorem apIdx_eq (l : List Ex) (hl : l.length ≤ 1000) (hb : ∀ y ∈ l, BigP y) (x w : Ex) (hx : BigP x) : bodyW DC 59 [.sl (l.map exV), .fn 65 [.ptr 1 1 0 0]] [.box (.agg [.int .i64 w.1, .int .i64 w.2]), .box (.agg [.int .i64 x.1, .int .i64 x.2])] =
    some (.int .i64 (idxI x l), [.box (.agg [.int .i64 w.1, .int .i64 w.2]), .box (.agg [.int .i64 x.1, .int .i64 x.2])]) := by
  generalize hR : idxI x l = R
  unfold idxI at hR
  (refine gives_iff ?_; refine go_func Try.f59 rfl rfl (by simp [Try.f59]) ?_; dsimp only [codeL, Try.f59, scL, sopsL, guardL, dstAt, loopKey])
  (repeat (first
    | (apply is_ok; (case hw => simp); (case he => simp; exact is_rfl))
    | (apply op_no; (case hw => simp))
    | refine op_nil ?_ | refine next_normal ?_ | refine go_seq ?_ | refine go_region ?_ | refine go_skip ?_ | refine go_block ?_ | refine inb_normal ?_
    | (apply go_yes; (case hc => simp)) | (apply go_no; (case hc => simp))
    | refine go_exit ?_ | refine next_exit ?_ | refine inb_here ?_ | refine inb_past (by decide) ?_ | refine go_ret ?_ | refine next_ret ?_ | refine inb_ret ?_))
  refine go_count l.length (fun i => [(0, .sl (l.map exV)), (1, .fn 65 [.ptr 1 1 0 0]), (7, .int .i64 l.length), (8, .int .i64 i)]) (fun _ => [.box (.agg [.int .i64 w.1, .int .i64 w.2]), .box (.agg [.int .i64 x.1, .int .i64 x.2])]) (fun i => ∀ j (h : j < l.length), j < i → ¬ meetP x l[j]) (by simp) (fun j _ h => absurd h (Nat.not_lt_zero j)) fun i hi hI => ?_
  by_cases hlt : i < l.length
  · have g1 : (i : Int) < l.length := by omega
    have g2 : l[i]? = some l[i] := List.getElem?_eq_getElem hlt
    have w1 : IntKind.i64.wrap ((i : Int) + 1) = (i : Int) + 1 := wrap_id (by omega) (by omega)
    have v1 := ap1_eq l[i] x w (hb _ (List.getElem_mem hlt)) hx
    by_cases hm : meetP x l[i]
    · rw [decide_eq_true hm] at v1
      have hf : l.findIdx? (fun y => decide (meetP x y)) = some i := by
        rw [List.findIdx?_eq_some_iff_getElem]
        exact ⟨hlt, by simpa using hm, fun j hj => by simpa using hI j (by omega) hj⟩
      rw [hf] at hR
      simp only at hR
      subst hR
      (repeat (first
    | (apply is_ok; (case hw => simp [g1, g2, hlt, v1, exV]); (case he => simp [g1, g2, hlt, v1, exV]; exact is_rfl))
    | (apply op_no; (case hw => simp [g1, g2, hlt, v1, exV]))
    | refine op_nil ?_ | refine next_normal ?_ | refine go_seq ?_ | refine go_region ?_ | refine go_skip ?_ | refine go_block ?_ | refine inb_normal ?_
    | (apply go_yes; (case hc => simp [g1, g2, hlt, v1, exV])) | (apply go_no; (case hc => simp [g1, g2, hlt, v1, exV]))
    | refine go_exit ?_ | refine next_exit ?_ | refine inb_here ?_ | refine inb_past (by decide) ?_ | refine go_ret ?_ | refine next_ret ?_ | refine inb_ret ?_))
      (apply ends_ok; (case h1 => simp; exact is_rfl); (case h2 => simp; exact is_rfl))
      simp
    · rw [decide_eq_false hm] at v1
      (repeat (first
    | (apply is_ok; (case hw => simp [g1, g2, hlt, v1, w1, exV]); (case he => simp [g1, g2, hlt, v1, w1, exV]; exact is_rfl))
    | (apply op_no; (case hw => simp [g1, g2, hlt, v1, w1, exV]))
    | refine op_nil ?_ | refine next_normal ?_ | refine go_seq ?_ | refine go_region ?_ | refine go_skip ?_ | refine go_block ?_ | refine inb_normal ?_
    | (apply go_yes; (case hc => simp [g1, g2, hlt, v1, w1, exV])) | (apply go_no; (case hc => simp [g1, g2, hlt, v1, w1, exV]))
    | refine go_exit ?_ | refine next_exit ?_ | refine inb_here ?_ | refine inb_past (by decide) ?_ | refine go_ret ?_ | refine next_ret ?_ | refine inb_ret ?_))
      exact ⟨hlt, by simp [exV, w1], fun j h hj => by
        rcases Nat.lt_or_ge j i with h1 | h1
        · exact hI j h h1
        · have : j = i := by omega
          subst this
          exact hm⟩
  · have g1 : ¬ (i : Int) < l.length := by omega
    have hf : l.findIdx? (fun y => decide (meetP x y)) = none := by
      rw [List.findIdx?_eq_none_iff]
      intro y hy
      obtain ⟨j, hj, rfl⟩ := List.mem_iff_getElem.1 hy
      simpa using hI j hj (by omega)
    rw [hf] at hR
    simp only at hR
    subst hR
    (repeat (first
    | (apply is_ok; (case hw => simp [g1]); (case he => simp [g1]; exact is_rfl))
    | (apply op_no; (case hw => simp [g1]))
    | refine op_nil ?_ | refine next_normal ?_ | refine go_seq ?_ | refine go_region ?_ | refine go_skip ?_ | refine go_block ?_ | refine inb_normal ?_
    | (apply go_yes; (case hc => simp [g1])) | (apply go_no; (case hc => simp [g1]))
    | refine go_exit ?_ | refine next_exit ?_ | refine inb_here ?_ | refine inb_past (by decide) ?_ | refine go_ret ?_ | refine next_ret ?_ | refine inb_ret ?_))
    (apply ends_ok; (case h1 => simp; exact is_rfl); (case h2 => simp; exact is_rfl))
    simp

theorem apCont_eq (l : List Ex) (hl : l.length ≤ 1000) (hb : ∀ y ∈ l, BigP y) (x w : Ex) (hx : BigP x) : bodyW DC 33 [.sl (l.map exV), .fn 65 [.ptr 1 1 0 0]] [.box (.agg [.int .i64 w.1, .int .i64 w.2]), .box (.agg [.int .i64 x.1, .int .i64 x.2])] =
    some (.bool (decide (∃ y ∈ l, meetP x y)), [.box (.agg [.int .i64 w.1, .int .i64 w.2]), .box (.agg [.int .i64 x.1, .int .i64 x.2])]) := by
  have v1 := apIdx_eq l hl hb x w hx
  have v2 := idxI_iff x l
  generalize idxI x l = r at v1 v2
  (refine gives_iff ?_; refine go_func Try.f33 rfl rfl (by simp [Try.f33]) ?_; dsimp only [codeL, Try.f33, scL, sopsL, guardL, dstAt, loopKey])
  (repeat (first
    | (apply is_ok; (case hw => simp [v1]); (case he => simp [v1]; exact is_rfl))
    | (apply op_no; (case hw => simp [v1]))
    | refine op_nil ?_ | refine next_normal ?_ | refine go_seq ?_ | refine go_region ?_ | refine go_skip ?_ | refine go_block ?_ | refine inb_normal ?_
    | (apply go_yes; (case hc => simp [v1])) | (apply go_no; (case hc => simp [v1]))
    | refine go_exit ?_ | refine next_exit ?_ | refine inb_here ?_ | refine inb_past (by decide) ?_ | refine go_ret ?_ | refine next_ret ?_ | refine inb_ret ?_))
  (apply ends_ok; (case h1 => simp; exact is_rfl); (case h2 => simp; exact is_rfl))
  exact ⟨by congr 1; exact decide_eq_decide.2 v2, rfl⟩

def inP (w x : Ex) : Prop := w.1 ≤ x.1 ∧ x.1 + x.2 ≤ w.1 + w.2
instance (w x : Ex) : Decidable (inP w x) := by unfold inP; infer_instance
/-- Do extents lie within another one, and do not meet? -/
def apP (l : List Ex) (w : Ex) : Prop := ∀ i (h : i < l.length), inP w l[i] ∧ ∀ j (hj : j < i), ¬ meetP l[i] (l[j]'(by omega))
noncomputable def apB (l : List Ex) (w : Ex) : Bool := @decide (apP l w) (Classical.propDecidable _)
theorem apB_iff {l : List Ex} {w : Ex} : apB l w = true ↔ apP l w := by unfold apB; simp

/-- Extents of some units, none far away. -/
def UpP (a : Ex) : Prop := 0 ≤ a.1 ∧ a.1 ≤ 4000000 ∧ 0 < a.2 ∧ a.2 ≤ 4000000
theorem UpP.big {a : Ex} (h : UpP a) : BigP a := ⟨h.1, h.2.1, Int.le_of_lt h.2.2.1, h.2.2.2⟩

theorem apart_eq (l : List Ex) (hl : l.length ≤ 1000) (hb : ∀ y ∈ l, UpP y) (w : Ex) (hw : BigP w) : bodyW DC 42 [.sl (l.map exV), .agg [.int .i64 w.1, .int .i64 w.2]] [] = some (.bool (apB l w), []) := by
  generalize hB : apB l w = B
  (refine gives_iff ?_; refine go_func Try.f42 rfl rfl (by simp [Try.f42]) ?_; dsimp only [codeL, Try.f42, scL, sopsL, guardL, dstAt, loopKey])
  (repeat (first
    | (apply is_ok; (case hw => simp); (case he => simp; exact is_rfl))
    | (apply op_no; (case hw => simp))
    | refine op_nil ?_ | refine next_normal ?_ | refine go_seq ?_ | refine go_region ?_ | refine go_skip ?_ | refine go_block ?_ | refine inb_normal ?_
    | (apply go_yes; (case hc => simp)) | (apply go_no; (case hc => simp))
    | refine go_exit ?_ | refine next_exit ?_ | refine inb_here ?_ | refine inb_past (by decide) ?_ | refine go_ret ?_ | refine next_ret ?_ | refine inb_ret ?_))
  refine go_count l.length (fun i => [(0, .sl (l.map exV)), (3, .ptr 0 1 0 0), (7, .sl (l.map exV)), (8, .int .i64 l.length), (9, .int .i64 i)]) (fun _ => [.box (.agg [.int .i64 w.1, .int .i64 w.2])]) (fun i => ∀ k (h : k < l.length), k < i → inP w l[k] ∧ ∀ j (hj : j < k), ¬ meetP l[k] (l[j]'(by omega))) (by simp) (fun j _ h => absurd h (Nat.not_lt_zero j)) fun i hi hI => ?_
  by_cases hlt : i < l.length
  · have g1 : (i : Int) < l.length := by omega
    have g2 : l[i]? = some l[i] := List.getElem?_eq_getElem hlt
    have g3 : i ≤ l.length := by omega
    have g4 : (i : Int) ≤ l.length := by omega
    have g5 : (0 : Int) ≤ i := by omega
    have w1 : IntKind.i64.wrap ((i : Int) + 1) = (i : Int) + 1 := wrap_id (by omega) (by omega)
    have hx := hb _ (List.getElem_mem hlt)
    have v1 := within_eq l[i] w hx hw
    have v2 := apCont_eq (l.take i) (by rw [List.length_take]; omega) (fun y hy => (hb y (List.mem_of_mem_take hy)).big) l[i] w hx.big
    have e2 : (∃ y ∈ l.take i, meetP l[i] y) ↔ ¬ ∀ j (hj : j < i), ¬ meetP l[i] (l[j]'(by omega)) := by
      constructor
      · rintro ⟨y, hy, hm⟩ hn
        obtain ⟨j, hj, rfl⟩ := List.mem_iff_getElem.1 hy
        rw [List.length_take] at hj
        rw [List.getElem_take] at hm
        exact hn j (by omega) hm
      · intro hn
        by_cases hc : ∃ y ∈ l.take i, meetP l[i] y
        · exact hc
        · exact absurd (fun j hj hm => hc ⟨l[j], List.mem_iff_getElem.2 ⟨j, by rw [List.length_take]; omega, by rw [List.getElem_take]⟩, hm⟩) hn
    rw [List.map_take] at v2
    change bodyW DC _ _ _ = some (.bool (decide (inP w l[i])), []) at v1
    by_cases c1 : inP w l[i]
    · rw [decide_eq_true c1] at v1
      by_cases c2 : ∃ y ∈ l.take i, meetP l[i] y
      · rw [decide_eq_true c2] at v2
        have hf : B = false := by
          rw [← hB]
          cases hc : apB l w with
          | false => rfl
          | true => exact absurd (apB_iff.1 hc i hlt).2 (e2.1 c2)
        subst hf
        (repeat (first
    | (apply is_ok; (case hw => simp [g1, g2, g3, g4, g5, hlt, v1, v2, exV]); (case he => simp [g1, g2, g3, g4, g5, hlt, v1, v2, exV]; exact is_rfl))
    | (apply op_no; (case hw => simp [g1, g2, g3, g4, g5, hlt, v1, v2, exV]))
    | refine op_nil ?_ | refine next_normal ?_ | refine go_seq ?_ | refine go_region ?_ | refine go_skip ?_ | refine go_block ?_ | refine inb_normal ?_
    | (apply go_yes; (case hc => simp [g1, g2, g3, g4, g5, hlt, v1, v2, exV])) | (apply go_no; (case hc => simp [g1, g2, g3, g4, g5, hlt, v1, v2, exV]))
    | refine go_exit ?_ | refine next_exit ?_ | refine inb_here ?_ | refine inb_past (by decide) ?_ | refine go_ret ?_ | refine next_ret ?_ | refine inb_ret ?_))
        (apply ends_ok; (case h1 => simp; exact is_rfl); (case h2 => simp; exact is_rfl))
        simp
      · rw [decide_eq_false c2] at v2
        (repeat (first
    | (apply is_ok; (case hw => simp [g1, g2, g3, g4, g5, hlt, v1, v2, w1, exV]); (case he => simp [g1, g2, g3, g4, g5, hlt, v1, v2, w1, exV]; exact is_rfl))
    | (apply op_no; (case hw => simp [g1, g2, g3, g4, g5, hlt, v1, v2, w1, exV]))
    | refine op_nil ?_ | refine next_normal ?_ | refine go_seq ?_ | refine go_region ?_ | refine go_skip ?_ | refine go_block ?_ | refine inb_normal ?_
    | (apply go_yes; (case hc => simp [g1, g2, g3, g4, g5, hlt, v1, v2, w1, exV])) | (apply go_no; (case hc => simp [g1, g2, g3, g4, g5, hlt, v1, v2, w1, exV]))
    | refine go_exit ?_ | refine next_exit ?_ | refine inb_here ?_ | refine inb_past (by decide) ?_ | refine go_ret ?_ | refine next_ret ?_ | refine inb_ret ?_))
        exact ⟨hlt, by simp [w1, exV], fun k h hk => by
          rcases Nat.lt_or_ge k i with h1 | h1
          · exact hI k h h1
          · have : k = i := by omega
            subst this
            exact ⟨c1, Classical.not_not.1 fun hn => c2 (e2.2 hn)⟩⟩
    · rw [decide_eq_false c1] at v1
      have hf : B = false := by
        rw [← hB]
        cases hc : apB l w with
        | false => rfl
        | true => exact absurd (apB_iff.1 hc i hlt).1 c1
      subst hf
      by_cases c2 : ∃ y ∈ l.take i, meetP l[i] y
      · rw [decide_eq_true c2] at v2
        (repeat (first
    | (apply is_ok; (case hw => simp [g1, g2, g3, g4, g5, hlt, v1, v2, exV]); (case he => simp [g1, g2, g3, g4, g5, hlt, v1, v2, exV]; exact is_rfl))
    | (apply op_no; (case hw => simp [g1, g2, g3, g4, g5, hlt, v1, v2, exV]))
    | refine op_nil ?_ | refine next_normal ?_ | refine go_seq ?_ | refine go_region ?_ | refine go_skip ?_ | refine go_block ?_ | refine inb_normal ?_
    | (apply go_yes; (case hc => simp [g1, g2, g3, g4, g5, hlt, v1, v2, exV])) | (apply go_no; (case hc => simp [g1, g2, g3, g4, g5, hlt, v1, v2, exV]))
    | refine go_exit ?_ | refine next_exit ?_ | refine inb_here ?_ | refine inb_past (by decide) ?_ | refine go_ret ?_ | refine next_ret ?_ | refine inb_ret ?_))
        (apply ends_ok; (case h1 => simp; exact is_rfl); (case h2 => simp; exact is_rfl))
        simp
      · rw [decide_eq_false c2] at v2
        (repeat (first
    | (apply is_ok; (case hw => simp [g1, g2, g3, g4, g5, hlt, v1, v2, exV]); (case he => simp [g1, g2, g3, g4, g5, hlt, v1, v2, exV]; exact is_rfl))
    | (apply op_no; (case hw => simp [g1, g2, g3, g4, g5, hlt, v1, v2, exV]))
    | refine op_nil ?_ | refine next_normal ?_ | refine go_seq ?_ | refine go_region ?_ | refine go_skip ?_ | refine go_block ?_ | refine inb_normal ?_
    | (apply go_yes; (case hc => simp [g1, g2, g3, g4, g5, hlt, v1, v2, exV])) | (apply go_no; (case hc => simp [g1, g2, g3, g4, g5, hlt, v1, v2, exV]))
    | refine go_exit ?_ | refine next_exit ?_ | refine inb_here ?_ | refine inb_past (by decide) ?_ | refine go_ret ?_ | refine next_ret ?_ | refine inb_ret ?_))
        (apply ends_ok; (case h1 => simp; exact is_rfl); (case h2 => simp; exact is_rfl))
        simp
  · have g1 : ¬ (i : Int) < l.length := by omega
    have hf : B = true := by rw [← hB, apB_iff]; exact fun k h => hI k h (by omega)
    subst hf
    (repeat (first
    | (apply is_ok; (case hw => simp [g1]); (case he => simp [g1]; exact is_rfl))
    | (apply op_no; (case hw => simp [g1]))
    | refine op_nil ?_ | refine next_normal ?_ | refine go_seq ?_ | refine go_region ?_ | refine go_skip ?_ | refine go_block ?_ | refine inb_normal ?_
    | (apply go_yes; (case hc => simp [g1])) | (apply go_no; (case hc => simp [g1]))
    | refine go_exit ?_ | refine next_exit ?_ | refine inb_here ?_ | refine inb_past (by decide) ?_ | refine go_ret ?_ | refine next_ret ?_ | refine inb_ret ?_))
    (apply ends_ok; (case h1 => simp; exact is_rfl); (case h2 => simp; exact is_rfl))
    simp

theorem placed_eq (l : List Ex) (hl : l.length ≤ 1000) (hb : ∀ y ∈ l, UpP y) (w : Ex) (hw : BigP w) : bodyW DC 43 [.sl (l.map exV), .agg [.int .i64 w.1, .int .i64 w.2]] [] = some (.bool (apB l w), []) := by
  generalize hB : apB l w = B
  (refine gives_iff ?_; refine go_func Try.f43 rfl rfl (by simp [Try.f43]) ?_; dsimp only [codeL, Try.f43, scL, sopsL, guardL, dstAt, loopKey])
  (repeat (first
    | (apply is_ok; (case hw => simp); (case he => simp; exact is_rfl))
    | (apply op_no; (case hw => simp))
    | refine op_nil ?_ | refine next_normal ?_ | refine go_seq ?_ | refine go_region ?_ | refine go_skip ?_ | refine go_block ?_ | refine inb_normal ?_
    | (apply go_yes; (case hc => simp)) | (apply go_no; (case hc => simp))
    | refine go_exit ?_ | refine next_exit ?_ | refine inb_here ?_ | refine inb_past (by decide) ?_ | refine go_ret ?_ | refine next_ret ?_ | refine inb_ret ?_))
  refine go_count l.length (fun i => [(0, .sl (l.map exV)), (3, .ptr 0 1 0 0), (5, .int .i64 i)]) (fun _ => [.box (.agg [.int .i64 w.1, .int .i64 w.2])]) (fun i => ∀ k (h : k < l.length), k < i → inP w l[k] ∧ ∀ j (hj : j < k), ¬ meetP l[k] (l[j]'(by omega))) (by simp) (fun j _ h => absurd h (Nat.not_lt_zero j)) fun i hi hI => ?_
  by_cases hlt : i < l.length
  · have g1 : (i : Int) < l.length := by omega
    have g2 : l[i]? = some l[i] := List.getElem?_eq_getElem hlt
    have w1 : IntKind.i64.wrap ((i : Int) + 1) = (i : Int) + 1 := wrap_id (by omega) (by omega)
    have hx := hb _ (List.getElem_mem hlt)
    have v1 := Within_eq l[i] w hx hw
    change bodyW DC _ _ _ = some (.bool (decide (inP w l[i])), []) at v1
    by_cases c1 : inP w l[i]
    · rw [decide_eq_true c1] at v1
      (repeat (first
    | (apply is_ok; (case hw => simp [g1, g2, hlt, v1, w1, exV]); (case he => simp [g1, g2, hlt, v1, w1, exV]; exact is_rfl))
    | (apply op_no; (case hw => simp [g1, g2, hlt, v1, w1, exV]))
    | refine op_nil ?_ | refine next_normal ?_ | refine go_seq ?_ | refine go_region ?_ | refine go_skip ?_ | refine go_block ?_ | refine inb_normal ?_
    | (apply go_yes; (case hc => simp [g1, g2, hlt, v1, w1, exV])) | (apply go_no; (case hc => simp [g1, g2, hlt, v1, w1, exV]))
    | refine go_exit ?_ | refine next_exit ?_ | refine inb_here ?_ | refine inb_past (by decide) ?_ | refine go_ret ?_ | refine next_ret ?_ | refine inb_ret ?_))
      refine go_count i (fun j => [(0, .sl (l.map exV)), (3, .ptr 0 1 0 0), (5, .int .i64 i), (6, .int .i64 j)]) (fun _ => [.box (.agg [.int .i64 w.1, .int .i64 w.2])]) (fun j => ∀ k (hk : k < i), k < j → ¬ meetP l[i] (l[k]'(by omega))) (by simp [exV]) (fun j _ h => absurd h (Nat.not_lt_zero j)) fun j hj hJ => ?_
      by_cases hlj : j < i
      · have g3 : (j : Int) < i := by omega
        have hlj' : j < l.length := by omega
        have g4 : l[j]? = some l[j] := List.getElem?_eq_getElem hlj'
        have w2 : IntKind.i64.wrap ((j : Int) + 1) = (j : Int) + 1 := wrap_id (by omega) (by omega)
        have v2 := Meet_eq l[i] l[j] hx.big (hb _ (List.getElem_mem hlj')).big
        by_cases c2 : meetP l[i] l[j]
        · rw [decide_eq_true c2] at v2
          have hf : B = false := by
            rw [← hB]
            cases hc : apB l w with
            | false => rfl
            | true => exact absurd c2 ((apB_iff.1 hc i hlt).2 j hlj)
          subst hf
          (repeat (first
    | (apply is_ok; (case hw => simp [g1, g2, g3, g4, hlj, hlj', hlt, v2, exV]); (case he => simp [g1, g2, g3, g4, hlj, hlj', hlt, v2, exV]; exact is_rfl))
    | (apply op_no; (case hw => simp [g1, g2, g3, g4, hlj, hlj', hlt, v2, exV]))
    | refine op_nil ?_ | refine next_normal ?_ | refine go_seq ?_ | refine go_region ?_ | refine go_skip ?_ | refine go_block ?_ | refine inb_normal ?_
    | (apply go_yes; (case hc => simp [g1, g2, g3, g4, hlj, hlj', hlt, v2, exV])) | (apply go_no; (case hc => simp [g1, g2, g3, g4, hlj, hlj', hlt, v2, exV]))
    | refine go_exit ?_ | refine next_exit ?_ | refine inb_here ?_ | refine inb_past (by decide) ?_ | refine go_ret ?_ | refine next_ret ?_ | refine inb_ret ?_))
          (apply ends_ok; (case h1 => simp; exact is_rfl); (case h2 => simp; exact is_rfl))
          simp
        · rw [decide_eq_false c2] at v2
          (repeat (first
    | (apply is_ok; (case hw => simp [g1, g2, g3, g4, hlj, hlj', hlt, v2, w2, exV]); (case he => simp [g1, g2, g3, g4, hlj, hlj', hlt, v2, w2, exV]; exact is_rfl))
    | (apply op_no; (case hw => simp [g1, g2, g3, g4, hlj, hlj', hlt, v2, w2, exV]))
    | refine op_nil ?_ | refine next_normal ?_ | refine go_seq ?_ | refine go_region ?_ | refine go_skip ?_ | refine go_block ?_ | refine inb_normal ?_
    | (apply go_yes; (case hc => simp [g1, g2, g3, g4, hlj, hlj', hlt, v2, w2, exV])) | (apply go_no; (case hc => simp [g1, g2, g3, g4, hlj, hlj', hlt, v2, w2, exV]))
    | refine go_exit ?_ | refine next_exit ?_ | refine inb_here ?_ | refine inb_past (by decide) ?_ | refine go_ret ?_ | refine next_ret ?_ | refine inb_ret ?_))
          exact ⟨hlj, by simp [w2, exV], fun k h hk => by
            rcases Nat.lt_or_ge k j with h1 | h1
            · exact hJ k h h1
            · have : k = j := by omega
              subst this
              exact c2⟩
      · have : j = i := by omega
        subst this
        (repeat (first
    | (apply is_ok; (case hw => simp [w1]); (case he => simp [w1]; exact is_rfl))
    | (apply op_no; (case hw => simp [w1]))
    | refine op_nil ?_ | refine next_normal ?_ | refine go_seq ?_ | refine go_region ?_ | refine go_skip ?_ | refine go_block ?_ | refine inb_normal ?_
    | (apply go_yes; (case hc => simp [w1])) | (apply go_no; (case hc => simp [w1]))
    | refine go_exit ?_ | refine next_exit ?_ | refine inb_here ?_ | refine inb_past (by decide) ?_ | refine go_ret ?_ | refine next_ret ?_ | refine inb_ret ?_))
        exact ⟨hlt, by simp [w1, exV], fun k h hk => by
          rcases Nat.lt_or_ge k j with h1 | h1
          · exact hI k h h1
          · have : k = j := by omega
            subst this
            exact ⟨c1, fun m hm => hJ m hm hm⟩⟩
    · rw [decide_eq_false c1] at v1
      have hf : B = false := by
        rw [← hB]
        cases hc : apB l w with
        | false => rfl
        | true => exact absurd (apB_iff.1 hc i hlt).1 c1
      subst hf
      (repeat (first
    | (apply is_ok; (case hw => simp [g1, g2, hlt, v1, exV]); (case he => simp [g1, g2, hlt, v1, exV]; exact is_rfl))
    | (apply op_no; (case hw => simp [g1, g2, hlt, v1, exV]))
    | refine op_nil ?_ | refine next_normal ?_ | refine go_seq ?_ | refine go_region ?_ | refine go_skip ?_ | refine go_block ?_ | refine inb_normal ?_
    | (apply go_yes; (case hc => simp [g1, g2, hlt, v1, exV])) | (apply go_no; (case hc => simp [g1, g2, hlt, v1, exV]))
    | refine go_exit ?_ | refine next_exit ?_ | refine inb_here ?_ | refine inb_past (by decide) ?_ | refine go_ret ?_ | refine next_ret ?_ | refine inb_ret ?_))
      (apply ends_ok; (case h1 => simp; exact is_rfl); (case h2 => simp; exact is_rfl))
      simp
  · have g1 : ¬ (i : Int) < l.length := by omega
    have hf : B = true := by rw [← hB, apB_iff]; exact fun k h => hI k h (by omega)
    subst hf
    (repeat (first
    | (apply is_ok; (case hw => simp [g1]); (case he => simp [g1]; exact is_rfl))
    | (apply op_no; (case hw => simp [g1]))
    | refine op_nil ?_ | refine next_normal ?_ | refine go_seq ?_ | refine go_region ?_ | refine go_skip ?_ | refine go_block ?_ | refine inb_normal ?_
    | (apply go_yes; (case hc => simp [g1])) | (apply go_no; (case hc => simp [g1]))
    | refine go_exit ?_ | refine next_exit ?_ | refine inb_here ?_ | refine inb_past (by decide) ?_ | refine go_ret ?_ | refine next_ret ?_ | refine inb_ret ?_))
    (apply ends_ok; (case h1 => simp; exact is_rfl); (case h2 => simp; exact is_rfl))
    simp

theorem eqL_ex (a b c d : Int) : eqL Try.prog 10000 24 [.int .i64 a, .int .i64 b] [.int .i64 c, .int .i64 d] = some ((a == c) && (b == d)) := by
  have s1 : Try.prog.stoodInHeld 24 = false := by kernel_rfl
  have o1 : okT Try.prog 3 = true := by kernel_rfl
  have z1 : sizeL Try.prog 3 = 1 := by kernel_rfl
  rw [show (10000 : Nat) = 9997 + 3 from rfl]
  generalize 9997 = n
  simp [eqL, eqFs, eqNs, s1, o1, z1, Try.underlying24, Try.underlying3]
theorem ex_neq (a b : Int) : binV Try.prog .neq 24 (.agg [.int .i64 a, .int .i64 b]) (.agg [.int .i64 a, .int .i64 b]) = some (.bool false) := by
  have h := (binV_agg (P := Try.prog) (t := 24) (d := 10000) rfl (by kernel_rfl) (by kernel_rfl) rfl rfl (eqL_ex a b a b)).2
  simpa using h
theorem SameEx_eq (l : List Ex) (hl : l.length ≤ 1000) : bodyW DC 15 [.sl (l.map exV), .sl (l.map exV)] [] = some (.bool true, []) := by
  (refine gives_iff ?_; refine go_func Try.f15 rfl rfl (by simp [Try.f15]) ?_; dsimp only [codeL, Try.f15, scL, sopsL, guardL, dstAt, loopKey])
  (repeat (first
    | (apply is_ok; (case hw => simp); (case he => simp; exact is_rfl))
    | (apply op_no; (case hw => simp))
    | refine op_nil ?_ | refine next_normal ?_ | refine go_seq ?_ | refine go_region ?_ | refine go_skip ?_ | refine go_block ?_ | refine inb_normal ?_
    | (apply go_yes; (case hc => simp)) | (apply go_no; (case hc => simp))
    | refine go_exit ?_ | refine next_exit ?_ | refine inb_here ?_ | refine inb_past (by decide) ?_ | refine go_ret ?_ | refine next_ret ?_ | refine inb_ret ?_))
  refine go_count l.length (fun i => [(0, .sl (l.map exV)), (1, .sl (l.map exV)), (5, .int .i64 i)]) (fun _ => []) (fun i => True) (by simp) trivial fun i hi _ => ?_
  by_cases hlt : i < l.length
  · have g1 : (i : Int) < l.length := by omega
    have g2 : l[i]? = some l[i] := List.getElem?_eq_getElem hlt
    have w1 : IntKind.i64.wrap ((i : Int) + 1) = (i : Int) + 1 := wrap_id (by omega) (by omega)
    (repeat (first
    | (apply is_ok; (case hw => simp [-binV, g1, g2, hlt, w1, exV, ex_neq]); (case he => simp [-binV, g1, g2, hlt, w1, exV, ex_neq]; exact is_rfl))
    | (apply op_no; (case hw => simp [-binV, g1, g2, hlt, w1, exV, ex_neq]))
    | refine op_nil ?_ | refine next_normal ?_ | refine go_seq ?_ | refine go_region ?_ | refine go_skip ?_ | refine go_block ?_ | refine inb_normal ?_
    | (apply go_yes; (case hc => simp [-binV, g1, g2, hlt, w1, exV, ex_neq])) | (apply go_no; (case hc => simp [-binV, g1, g2, hlt, w1, exV, ex_neq]))
    | refine go_exit ?_ | refine next_exit ?_ | refine inb_here ?_ | refine inb_past (by decide) ?_ | refine go_ret ?_ | refine next_ret ?_ | refine inb_ret ?_))
    exact ⟨hlt, by simp [w1, exV], trivial⟩
  · have g1 : ¬ (i : Int) < l.length := by omega
    (repeat (first
    | (apply is_ok; (case hw => simp [g1]); (case he => simp [g1]; exact is_rfl))
    | (apply op_no; (case hw => simp [g1]))
    | refine op_nil ?_ | refine next_normal ?_ | refine go_seq ?_ | refine go_region ?_ | refine go_skip ?_ | refine go_block ?_ | refine inb_normal ?_
    | (apply go_yes; (case hc => simp [g1])) | (apply go_no; (case hc => simp [g1]))
    | refine go_exit ?_ | refine next_exit ?_ | refine inb_here ?_ | refine inb_past (by decide) ?_ | refine go_ret ?_ | refine next_ret ?_ | refine inb_ret ?_))
    (apply ends_ok; (case h1 => simp; exact is_rfl); (case h2 => simp; exact is_rfl))
    simp

theorem swSmall_eq (p : Ex) : bodyW DC 41 [.agg [.int .i64 p.1, .int .i64 p.2]] [] = some (.bool (decide (UsuP p)), []) := by
  unfold UsuP
  by_cases h1 : 0 ≤ p.1 <;> by_cases h2 : p.1 ≤ 1048576 <;> by_cases h3 : 0 ≤ p.2 <;>
  · (refine gives_iff ?_; refine go_func Try.f41 rfl rfl (by simp [Try.f41]) ?_; dsimp only [codeL, Try.f41, scL, sopsL, guardL, dstAt, loopKey])
    (repeat (first
    | (apply is_ok; (case hw => simp [h1, h2, h3]); (case he => simp [h1, h2, h3]; exact is_rfl))
    | (apply op_no; (case hw => simp [h1, h2, h3]))
    | refine op_nil ?_ | refine next_normal ?_ | refine go_seq ?_ | refine go_region ?_ | refine go_skip ?_ | refine go_block ?_ | refine inb_normal ?_
    | (apply go_yes; (case hc => simp [h1, h2, h3])) | (apply go_no; (case hc => simp [h1, h2, h3]))
    | refine go_exit ?_ | refine next_exit ?_ | refine inb_here ?_ | refine inb_past (by decide) ?_ | refine go_ret ?_ | refine next_ret ?_ | refine inb_ret ?_))
    (apply ends_ok; (case h1 => simp; exact is_rfl); (case h2 => simp; exact is_rfl))
    simp [h1, h2, h3]
end Go.Abs

