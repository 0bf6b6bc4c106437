/- Proved here: what functions of the program compute, over the evaluator. No condition but those that each theorem states. -/
import Derived.Test.YthpkihimboiglaaH4
namespace Go.Abs
open Go.Proofs
set_option maxRecDepth 100000
set_option linter.unusedSimpArgs false
set_option linter.unusedVariables false

/-- The places that the program looks at. -/
def posC (l : List Ex) (w : Ex) : List Int := w.1 :: (l.filter fun y => decide (0 < y.2)).map fun y => y.1 + y.2
theorem posC_take {l : List Ex} {w : Ex} {i : Nat} (h : i < l.length) : posC (l.take (i + 1)) w = if 0 < l[i].2 then posC (l.take i) w ++ [l[i].1 + l[i].2] else posC (l.take i) w := by
  unfold posC
  rw [List.take_succ_eq_append_getElem h, List.filter_append, List.map_append]
  by_cases hc : 0 < l[i].2 <;> simp [hc]
theorem posC_length (l : List Ex) (w : Ex) : (posC l w).length ≤ l.length + 1 := by
  unfold posC
  rw [List.length_cons, List.length_map]
  have := List.length_filter_le (fun y : Ex => decide (0 < y.2)) l
  omega

theorem Fit_eq (l : List Ex) (hl : l.length ≤ 100) (hb : ∀ y ∈ l, UsuP y) (w : Ex) (hw : UsuP w) (k : Int) : bodyW DC 10 [.sl (l.map exV), .agg [.int .i64 w.1, .int .i64 w.2], .int .i64 k] [] =
    some (if k < 1 ∨ w.2 < k then .tuple [.int .i64 0, .bool false] else match leastR l w k (posC l w) with | some n => .tuple [.int .i64 n, .bool true] | none => .tuple [.int .i64 0, .bool false], []) := by
  by_cases h1 : k < 1
  · rw [if_pos (.inl h1)]
    (refine gives_iff ?_; refine go_func Try.f10 rfl rfl (by simp [Try.f10]) ?_; dsimp only [codeL, Try.f10, scL, sopsL, guardL, dstAt, loopKey])
    (repeat (first
    | (apply is_ok; (case hw => simp [h1]); (case he => simp [h1]; exact is_rfl))
    | (apply op_no; (case hw => simp [h1]))
    | refine op_nil ?_ | refine next_normal ?_ | refine go_seq ?_ | refine go_region ?_ | refine go_skip ?_ | refine go_block ?_ | refine inb_normal ?_
    | (apply go_yes; (case hc => simp [h1])) | (apply go_no; (case hc => simp [h1]))
    | refine go_exit ?_ | refine next_exit ?_ | refine inb_here ?_ | refine inb_past (by decide) ?_ | refine go_ret ?_ | refine next_ret ?_ | refine inb_ret ?_))
    (apply ends_ok; (case h1 => simp; exact is_rfl); (case h2 => simp; exact is_rfl))
    simp
  by_cases h2 : w.2 < k
  · rw [if_pos (.inr h2)]
    (refine gives_iff ?_; refine go_func Try.f10 rfl rfl (by simp [Try.f10]) ?_; dsimp only [codeL, Try.f10, scL, sopsL, guardL, dstAt, loopKey])
    (repeat (first
    | (apply is_ok; (case hw => simp [h1, h2]); (case he => simp [h1, h2]; exact is_rfl))
    | (apply op_no; (case hw => simp [h1, h2]))
    | refine op_nil ?_ | refine next_normal ?_ | refine go_seq ?_ | refine go_region ?_ | refine go_skip ?_ | refine go_block ?_ | refine inb_normal ?_
    | (apply go_yes; (case hc => simp [h1, h2])) | (apply go_no; (case hc => simp [h1, h2]))
    | refine go_exit ?_ | refine next_exit ?_ | refine inb_here ?_ | refine inb_past (by decide) ?_ | refine go_ret ?_ | refine next_ret ?_ | refine inb_ret ?_))
    (apply ends_ok; (case h1 => simp; exact is_rfl); (case h2 => simp; exact is_rfl))
    simp
  rw [if_neg (by omega)]
  have hB : ∀ y ∈ l, BigP y := fun y hy => by obtain ⟨a, b, c, d⟩ := hb y hy; exact ⟨a, by omega, c, by omega⟩
  obtain ⟨z1, z2, z3, z4⟩ := hw
  have hW : BigP w := ⟨z1, by omega, z3, by omega⟩
  generalize hR : leastR l w k (posC l w) = R
  (refine gives_iff ?_; refine go_func Try.f10 rfl rfl (by simp [Try.f10]) ?_; dsimp only [codeL, Try.f10, scL, sopsL, guardL, dstAt, loopKey])
  (repeat (first
    | (apply is_ok; (case hw => simp [h1, h2]); (case he => simp [h1, h2]; exact is_rfl))
    | (apply op_no; (case hw => simp [h1, h2]))
    | refine op_nil ?_ | refine next_normal ?_ | refine go_seq ?_ | refine go_region ?_ | refine go_skip ?_ | refine go_block ?_ | refine inb_normal ?_
    | (apply go_yes; (case hc => simp [h1, h2])) | (apply go_no; (case hc => simp [h1, h2]))
    | refine go_exit ?_ | refine next_exit ?_ | refine inb_here ?_ | refine inb_past (by decide) ?_ | refine go_ret ?_ | refine next_ret ?_ | refine inb_ret ?_))
  refine go_count l.length (fun i => [(0, .sl (l.map exV)), (2, .int .i64 k), (4, .ptr 0 1 0 0), (8, .own 1 (posC (l.take i) w).length 0 (posC (l.take i) w).length), (25, .sl (l.map exV)), (26, .int .i64 l.length), (27, .int .i64 i)])
    (fun i => [.box (.agg [.int .i64 w.1, .int .i64 w.2]), .dat true 1 (ints (posC (l.take i) w))]) (fun _ => True) (by simp [posC]) trivial fun i hi _ => ?_
  by_cases hlt : i < l.length
  · have g1 : (i : Int) < l.length := by omega
    have g2 : l[i]? = some l[i] := List.getElem?_eq_getElem hlt
    have w1 : IntKind.i64.wrap ((i : Int) + 1) = (i : Int) + 1 := wrap_id (by omega) (by omega)
    have v1 := end_eq l[i] (hB _ (List.getElem_mem hlt))
    have hp := posC_take (w := w) hlt
    have hpl := posC_length (l.take i) w
    have hti : (l.take i).length = i := by simp; omega
    by_cases hc : 0 < l[i].2
    · rw [if_pos hc] at hp
      rw [hp]
      generalize posC (l.take i) w = S at hpl
      have r1 : (S.length + 1) * 8 ≤ room := by unfold room; omega
      have r2 : S.length + 1 ≤ room := by unfold room; omega
      (repeat (first
    | (apply is_ok; (case hw => simp [g1, g2, hlt, hc, v1, w1, r1, r2, exV]); (case he => simp [g1, g2, hlt, hc, v1, w1, r1, r2, exV]; exact is_rfl))
    | (apply op_no; (case hw => simp [g1, g2, hlt, hc, v1, w1, r1, r2, exV]))
    | refine op_nil ?_ | refine next_normal ?_ | refine go_seq ?_ | refine go_region ?_ | refine go_skip ?_ | refine go_block ?_ | refine inb_normal ?_
    | (apply go_yes; (case hc => simp [g1, g2, hlt, hc, v1, w1, r1, r2, exV])) | (apply go_no; (case hc => simp [g1, g2, hlt, hc, v1, w1, r1, r2, exV]))
    | refine go_exit ?_ | refine next_exit ?_ | refine inb_here ?_ | refine inb_past (by decide) ?_ | refine go_ret ?_ | refine next_ret ?_ | refine inb_ret ?_))
      exact ⟨hlt, by simp [exV, w1], trivial⟩
    · rw [if_neg hc] at hp
      rw [hp]
      generalize posC (l.take i) w = S at hpl
      (repeat (first
    | (apply is_ok; (case hw => simp [g1, g2, hlt, hc, v1, w1, exV]); (case he => simp [g1, g2, hlt, hc, v1, w1, exV]; exact is_rfl))
    | (apply op_no; (case hw => simp [g1, g2, hlt, hc, v1, w1, exV]))
    | refine op_nil ?_ | refine next_normal ?_ | refine go_seq ?_ | refine go_region ?_ | refine go_skip ?_ | refine go_block ?_ | refine inb_normal ?_
    | (apply go_yes; (case hc => simp [g1, g2, hlt, hc, v1, w1, exV])) | (apply go_no; (case hc => simp [g1, g2, hlt, hc, v1, w1, exV]))
    | refine go_exit ?_ | refine next_exit ?_ | refine inb_here ?_ | refine inb_past (by decide) ?_ | refine go_ret ?_ | refine next_ret ?_ | refine inb_ret ?_))
      exact ⟨hlt, by simp [exV, w1], trivial⟩
  · have : i = l.length := by omega
    subst this
    have g1 : ¬ (l.length : Int) < l.length := by omega
    rw [List.take_length]
    have hpl := posC_length l w
    have hpos : ∀ n ∈ posC l w, 0 ≤ n ∧ n ≤ 4000000 := fun n hn => by
      rcases List.mem_cons.1 hn with rfl | hn
      · exact ⟨z1, by omega⟩
      · obtain ⟨y, hy, rfl⟩ := List.mem_map.1 hn
        obtain ⟨a, b, c, d⟩ := hb y (List.mem_filter.1 hy).1
        exact ⟨by omega, by omega⟩
    unfold leastR at hR
    have hsl := sorted_length (posC l w)
    have hsp : ∀ n ∈ sorted (posC l w), 0 ≤ n ∧ n ≤ 4000000 := fun n hn => hpos n (sorted_mem.1 hn)
    have hx : sortX [.own 1 (posC l w).length 0 (posC l w).length] [.box (.agg [.int .i64 w.1, .int .i64 w.2]), .dat true 1 (ints (posC l w))] = some (.tuple [], [.box (.agg [.int .i64 w.1, .int .i64 w.2]), .dat true 1 (ints (sorted (posC l w)))]) := by
      simp only [sortX, List.getElem?_cons_succ, List.getElem?_cons_zero, intsOf_ints]
      rw [if_pos ⟨trivial, trivial, trivial, trivial, by unfold room; omega⟩]
      rfl
    generalize sorted (posC l w) = S at *
    generalize posC l w = Q at *
    (repeat (first
    | (apply is_ok; (case hw => simp [g1, hx, hsl]); (case he => simp [g1, hx, hsl]; exact is_rfl))
    | (apply op_no; (case hw => simp [g1, hx, hsl]))
    | refine op_nil ?_ | refine next_normal ?_ | refine go_seq ?_ | refine go_region ?_ | refine go_skip ?_ | refine go_block ?_ | refine inb_normal ?_
    | (apply go_yes; (case hc => simp [g1, hx, hsl])) | (apply go_no; (case hc => simp [g1, hx, hsl]))
    | refine go_exit ?_ | refine next_exit ?_ | refine inb_here ?_ | refine inb_past (by decide) ?_ | refine go_ret ?_ | refine next_ret ?_ | refine inb_ret ?_))
    refine go_count Q.length (fun i => [(0, .sl (l.map exV)), (2, .int .i64 k), (4, .ptr 0 1 0 0), (42, .own 1 Q.length 0 Q.length), (43, .int .i64 Q.length), (44, .int .i64 i)])
      (fun i => [.box (.agg [.int .i64 w.1, .int .i64 w.2]), .dat true 1 (ints S)]) (fun i => ∀ j (h : j < S.length), j < i → ¬ roomP l w k S[j]) (by simp [hsl]) (fun j _ h => absurd h (Nat.not_lt_zero j)) fun i hi hI => ?_
    by_cases hlt : i < Q.length
    · have hlS : i < S.length := by omega
      have q1 : (i : Int) < Q.length := by omega
      have q2 : S[i]? = some S[i] := List.getElem?_eq_getElem hlS
      have w1 : IntKind.i64.wrap ((i : Int) + 1) = (i : Int) + 1 := wrap_id (by omega) (by omega)
      have hn := hsp S[i] (List.getElem_mem hlS)
      have hxB : BigP (S[i], k) := ⟨hn.1, hn.2, by omega, by omega⟩
      have v2 := within_eq (S[i], k) w ⟨hn.1, hn.2, by omega, by omega⟩ hW
      have v3 := cont_eq l (by omega) hB (S[i], k) w S hxB
      have next : ¬ roomP l w k S[i] → ∀ j (h : j < S.length), j < i + 1 → ¬ roomP l w k S[j] := fun hno j h hj => by
        rcases Nat.lt_or_ge j i with h1 | h1
        · exact hI j h h1
        · have : j = i := by omega
          subst this
          exact hno
      by_cases c1 : w.1 ≤ S[i]
      · by_cases c2 : S[i] + k ≤ w.1 + w.2
        · rw [decide_eq_true (show w.1 ≤ S[i] ∧ S[i] + k ≤ w.1 + w.2 from ⟨c1, c2⟩)] at v2
          by_cases c3 : ∃ y ∈ l, meetP (S[i], k) y
          · rw [decide_eq_true c3] at v3
            have hno : ¬ roomP l w k S[i] := fun h => by obtain ⟨y, hy, hm⟩ := c3; exact h.1 y hy hm
            simp only at v2 v3
            (repeat (first
    | (apply is_ok; (case hw => simp [q1, q2, hlt, hlS, hsl, c1, v2, v3, w1]); (case he => simp [q1, q2, hlt, hlS, hsl, c1, v2, v3, w1]; exact is_rfl))
    | (apply op_no; (case hw => simp [q1, q2, hlt, hlS, hsl, c1, v2, v3, w1]))
    | refine op_nil ?_ | refine next_normal ?_ | refine go_seq ?_ | refine go_region ?_ | refine go_skip ?_ | refine go_block ?_ | refine inb_normal ?_
    | (apply go_yes; (case hc => simp [q1, q2, hlt, hlS, hsl, c1, v2, v3, w1])) | (apply go_no; (case hc => simp [q1, q2, hlt, hlS, hsl, c1, v2, v3, w1]))
    | refine go_exit ?_ | refine next_exit ?_ | refine inb_here ?_ | refine inb_past (by decide) ?_ | refine go_ret ?_ | refine next_ret ?_ | refine inb_ret ?_))
            exact ⟨hlt, by simp [w1, hsl], next hno⟩
          · rw [decide_eq_false c3] at v3
            have hyes : roomP l w k S[i] := ⟨fun y hy hm => c3 ⟨y, hy, hm⟩, c1, c2⟩
            have hf : S.find? (fun n => decide (roomP l w k n)) = some S[i] := by
              rw [List.find?_eq_some_iff_getElem]
              exact ⟨by simpa using hyes, i, hlS, rfl, fun j hj => by simpa using hI j (by omega) hj⟩
            rw [hf] at hR
            subst hR
            simp only at v2 v3
            (repeat (first
    | (apply is_ok; (case hw => simp [q1, q2, hlt, hlS, hsl, c1, v2, v3, w1]); (case he => simp [q1, q2, hlt, hlS, hsl, c1, v2, v3, w1]; exact is_rfl))
    | (apply op_no; (case hw => simp [q1, q2, hlt, hlS, hsl, c1, v2, v3, w1]))
    | refine op_nil ?_ | refine next_normal ?_ | refine go_seq ?_ | refine go_region ?_ | refine go_skip ?_ | refine go_block ?_ | refine inb_normal ?_
    | (apply go_yes; (case hc => simp [q1, q2, hlt, hlS, hsl, c1, v2, v3, w1])) | (apply go_no; (case hc => simp [q1, q2, hlt, hlS, hsl, c1, v2, v3, w1]))
    | refine go_exit ?_ | refine next_exit ?_ | refine inb_here ?_ | refine inb_past (by decide) ?_ | refine go_ret ?_ | refine next_ret ?_ | refine inb_ret ?_))
            (apply ends_ok; (case h1 => simp; exact is_rfl); (case h2 => simp; exact is_rfl))
            simp
        · rw [decide_eq_false (show ¬ (w.1 ≤ S[i] ∧ S[i] + k ≤ w.1 + w.2) from fun h => c2 h.2)] at v2
          have hno : ¬ roomP l w k S[i] := fun h => c2 h.2.2
          simp only at v2
          (repeat (first
    | (apply is_ok; (case hw => simp [q1, q2, hlt, hlS, hsl, c1, v2, w1]); (case he => simp [q1, q2, hlt, hlS, hsl, c1, v2, w1]; exact is_rfl))
    | (apply op_no; (case hw => simp [q1, q2, hlt, hlS, hsl, c1, v2, w1]))
    | refine op_nil ?_ | refine next_normal ?_ | refine go_seq ?_ | refine go_region ?_ | refine go_skip ?_ | refine go_block ?_ | refine inb_normal ?_
    | (apply go_yes; (case hc => simp [q1, q2, hlt, hlS, hsl, c1, v2, w1])) | (apply go_no; (case hc => simp [q1, q2, hlt, hlS, hsl, c1, v2, w1]))
    | refine go_exit ?_ | refine next_exit ?_ | refine inb_here ?_ | refine inb_past (by decide) ?_ | refine go_ret ?_ | refine next_ret ?_ | refine inb_ret ?_))
          exact ⟨hlt, by simp [w1, hsl], next hno⟩
      · have hno : ¬ roomP l w k S[i] := fun h => c1 h.2.1
        (repeat (first
    | (apply is_ok; (case hw => simp [q1, q2, hlt, hlS, hsl, c1, w1]); (case he => simp [q1, q2, hlt, hlS, hsl, c1, w1]; exact is_rfl))
    | (apply op_no; (case hw => simp [q1, q2, hlt, hlS, hsl, c1, w1]))
    | refine op_nil ?_ | refine next_normal ?_ | refine go_seq ?_ | refine go_region ?_ | refine go_skip ?_ | refine go_block ?_ | refine inb_normal ?_
    | (apply go_yes; (case hc => simp [q1, q2, hlt, hlS, hsl, c1, w1])) | (apply go_no; (case hc => simp [q1, q2, hlt, hlS, hsl, c1, w1]))
    | refine go_exit ?_ | refine next_exit ?_ | refine inb_here ?_ | refine inb_past (by decide) ?_ | refine go_ret ?_ | refine next_ret ?_ | refine inb_ret ?_))
        exact ⟨hlt, by simp [w1, hsl], next hno⟩
    · have : i = Q.length := by omega
      subst this
      have q1 : ¬ (Q.length : Int) < Q.length := by omega
      have hf : S.find? (fun n => decide (roomP l w k n)) = none := by
        rw [List.find?_eq_none]
        intro n hn
        obtain ⟨j, hj, rfl⟩ := List.mem_iff_getElem.1 hn
        simpa using hI j hj (by omega)
      rw [hf] at hR
      subst hR
      (repeat (first
    | (apply is_ok; (case hw => simp [q1]); (case he => simp [q1]; exact is_rfl))
    | (apply op_no; (case hw => simp [q1]))
    | refine op_nil ?_ | refine next_normal ?_ | refine go_seq ?_ | refine go_region ?_ | refine go_skip ?_ | refine go_block ?_ | refine inb_normal ?_
    | (apply go_yes; (case hc => simp [q1])) | (apply go_no; (case hc => simp [q1]))
    | refine go_exit ?_ | refine next_exit ?_ | refine inb_here ?_ | refine inb_past (by decide) ?_ | refine go_ret ?_ | refine next_ret ?_ | refine inb_ret ?_))
      (apply ends_ok; (case h1 => simp; exact is_rfl); (case h2 => simp; exact is_rfl))
      simp
end Go.Abs
