/- Proved here: what functions of the program compute, over the evaluator. No condition but those that each theorem states. -/
import Derived.Test.YthpkihimboiglaaH6
namespace Go.Abs
open Go.Proofs
set_option maxRecDepth 100000
set_option linter.unusedSimpArgs false
set_option linter.unusedVariables false

/-- What Fit returns. -/
def fitN (l : List Ex) (w : Ex) (k : Int) : Option Int := if k < 1 ∨ w.2 < k then none else leastR l w k (posC l w)
def fitV (l : List Ex) (w : Ex) (k : Int) : V := match fitN l w k with | some n => .tuple [.int .i64 n, .bool true] | none => .tuple [.int .i64 0, .bool false]
theorem Fit_eq' (l : List Ex) (hl : l.length ≤ 100) (hb : ∀ y ∈ l, UsuP y) (w : Ex) (hw : UsuP w) (k : Int) : bodyW DC 10 [.sl (l.map exV), .agg [.int .i64 w.1, .int .i64 w.2], .int .i64 k] [] = some (fitV l w k, []) := by
  rw [Fit_eq l hl hb w hw k]
  unfold fitV fitN
  split <;> rfl

/-- The place that Fit finds, told without candidates. -/
theorem fit_least {l : List Ex} {w : Ex} {k : Int} (hk : 0 < k) : (∀ n, fitN l w k = some n → roomP l w k n ∧ ∀ m, roomP l w k m → n ≤ m) ∧ (fitN l w k = none → ∀ m, ¬ roomP l w k m) := by
  unfold fitN
  by_cases h : k < 1 ∨ w.2 < k
  · rw [if_pos h]
    refine ⟨fun n hn => (by cases hn), fun _ m hm => ?_⟩
    have h1 := hm.2.1
    have h2 := hm.2.2
    omega
  rw [if_neg h]
  constructor
  · intro n hn
    obtain ⟨c1, c2, c3⟩ := find_sorted_min (sorted_pair _) hn
    refine ⟨by simpa using c2, fun m hm => ?_⟩
    obtain ⟨q, q1, q2, q3⟩ := room_cand hk hm
    have := c3 q (sorted_mem.2 (cand_pos.1 q1)) (by simpa using q3)
    omega
  · intro hn m hm
    obtain ⟨q, q1, q2, q3⟩ := room_cand hk hm
    unfold leastR at hn
    rw [List.find?_eq_none] at hn
    exact absurd (by simpa using q3) (hn q (sorted_mem.2 (cand_pos.1 q1)))

theorem L_SwapLeast (l : List Ex) (hl : l.length ≤ maxLen) (w : Ex) (k : Int) : bodyW DC 5 [.sl (l.map exV), .agg [.int .i64 w.1, .int .i64 w.2], .int .i64 k] [] = some (.bool true, []) := by
  have v1 := usual_eq l hl
  have v2 := Usual_eq w
  by_cases h1 : UsuL l
  case neg =>
    rw [decide_eq_false h1] at v1
    generalize decide (UsuP w) = b at v2
    (refine gives_iff ?_; refine go_func Try.f5 rfl rfl (by simp [Try.f5]) ?_; dsimp only [codeL, Try.f5, scL, sopsL, guardL, dstAt, loopKey])
    (repeat (first
    | (apply is_ok; (case hw => simp [v1, v2]); (case he => simp [v1, v2]; exact is_rfl))
    | (apply op_no; (case hw => simp [v1, v2]))
    | refine op_nil ?_ | refine next_normal ?_ | refine go_seq ?_ | refine go_region ?_ | refine go_skip ?_ | refine go_block ?_ | refine inb_normal ?_
    | (apply go_yes; (case hc => simp [v1, v2])) | (apply go_no; (case hc => simp [v1, v2]))
    | refine go_exit ?_ | refine next_exit ?_ | refine inb_here ?_ | refine inb_past (by decide) ?_ | refine go_ret ?_ | refine next_ret ?_ | refine inb_ret ?_))
    (apply ends_ok; (case h1 => simp; exact is_rfl); (case h2 => simp; exact is_rfl))
    simp
  rw [decide_eq_true h1] at v1
  by_cases h2 : UsuP w
  case neg =>
    rw [decide_eq_false h2] at v2
    (refine gives_iff ?_; refine go_func Try.f5 rfl rfl (by simp [Try.f5]) ?_; dsimp only [codeL, Try.f5, scL, sopsL, guardL, dstAt, loopKey])
    (repeat (first
    | (apply is_ok; (case hw => simp [v1, v2]); (case he => simp [v1, v2]; exact is_rfl))
    | (apply op_no; (case hw => simp [v1, v2]))
    | refine op_nil ?_ | refine next_normal ?_ | refine go_seq ?_ | refine go_region ?_ | refine go_skip ?_ | refine go_block ?_ | refine inb_normal ?_
    | (apply go_yes; (case hc => simp [v1, v2])) | (apply go_no; (case hc => simp [v1, v2]))
    | refine go_exit ?_ | refine next_exit ?_ | refine inb_here ?_ | refine inb_past (by decide) ?_ | refine go_ret ?_ | refine next_ret ?_ | refine inb_ret ?_))
    (apply ends_ok; (case h1 => simp; exact is_rfl); (case h2 => simp; exact is_rfl))
    simp
  rw [decide_eq_true h2] at v2
  by_cases h3 : 200 < w.2
  · (refine gives_iff ?_; refine go_func Try.f5 rfl rfl (by simp [Try.f5]) ?_; dsimp only [codeL, Try.f5, scL, sopsL, guardL, dstAt, loopKey])
    (repeat (first
    | (apply is_ok; (case hw => simp [v1, v2, h3]); (case he => simp [v1, v2, h3]; exact is_rfl))
    | (apply op_no; (case hw => simp [v1, v2, h3]))
    | refine op_nil ?_ | refine next_normal ?_ | refine go_seq ?_ | refine go_region ?_ | refine go_skip ?_ | refine go_block ?_ | refine inb_normal ?_
    | (apply go_yes; (case hc => simp [v1, v2, h3])) | (apply go_no; (case hc => simp [v1, v2, h3]))
    | refine go_exit ?_ | refine next_exit ?_ | refine inb_here ?_ | refine inb_past (by decide) ?_ | refine go_ret ?_ | refine next_ret ?_ | refine inb_ret ?_))
    (apply ends_ok; (case h1 => simp; exact is_rfl); (case h2 => simp; exact is_rfl))
    simp
  by_cases h4 : k < 1
  · (refine gives_iff ?_; refine go_func Try.f5 rfl rfl (by simp [Try.f5]) ?_; dsimp only [codeL, Try.f5, scL, sopsL, guardL, dstAt, loopKey])
    (repeat (first
    | (apply is_ok; (case hw => simp [v1, v2, h3, h4]); (case he => simp [v1, v2, h3, h4]; exact is_rfl))
    | (apply op_no; (case hw => simp [v1, v2, h3, h4]))
    | refine op_nil ?_ | refine next_normal ?_ | refine go_seq ?_ | refine go_region ?_ | refine go_skip ?_ | refine go_block ?_ | refine inb_normal ?_
    | (apply go_yes; (case hc => simp [v1, v2, h3, h4])) | (apply go_no; (case hc => simp [v1, v2, h3, h4]))
    | refine go_exit ?_ | refine next_exit ?_ | refine inb_here ?_ | refine inb_past (by decide) ?_ | refine go_ret ?_ | refine next_ret ?_ | refine inb_ret ?_))
    (apply ends_ok; (case h1 => simp; exact is_rfl); (case h2 => simp; exact is_rfl))
    simp
  by_cases h5 : 300 < k
  · (refine gives_iff ?_; refine go_func Try.f5 rfl rfl (by simp [Try.f5]) ?_; dsimp only [codeL, Try.f5, scL, sopsL, guardL, dstAt, loopKey])
    (repeat (first
    | (apply is_ok; (case hw => simp [v1, v2, h3, h4, h5]); (case he => simp [v1, v2, h3, h4, h5]; exact is_rfl))
    | (apply op_no; (case hw => simp [v1, v2, h3, h4, h5]))
    | refine op_nil ?_ | refine next_normal ?_ | refine go_seq ?_ | refine go_region ?_ | refine go_skip ?_ | refine go_block ?_ | refine inb_normal ?_
    | (apply go_yes; (case hc => simp [v1, v2, h3, h4, h5])) | (apply go_no; (case hc => simp [v1, v2, h3, h4, h5]))
    | refine go_exit ?_ | refine next_exit ?_ | refine inb_here ?_ | refine inb_past (by decide) ?_ | refine go_ret ?_ | refine next_ret ?_ | refine inb_ret ?_))
    (apply ends_ok; (case h1 => simp; exact is_rfl); (case h2 => simp; exact is_rfl))
    simp
  have v3 := Fit_eq' l h1.1 h1.2 w h2 k
  obtain ⟨p1, p2⟩ := fit_least (l := l) (w := w) (k := k) (by omega)
  have hl100 := h1.1
  have hb := h1.2
  obtain ⟨z1, z2, z3, z4⟩ := h2
  obtain ⟨a, b, e1, e2⟩ : ∃ a b, fitV l w k = .tuple [.int .i64 a, .bool b] ∧ ((b = true ∧ fitN l w k = some a) ∨ (b = false ∧ a = 0 ∧ fitN l w k = none)) := by
    unfold fitV
    cases hc : fitN l w k with
    | some n => exact ⟨n, true, rfl, .inl ⟨rfl, rfl⟩⟩
    | none => exact ⟨0, false, rfl, .inr ⟨rfl, rfl, rfl⟩⟩
  rw [e1] at v3
  have ww : IntKind.i64.wrap (w.1 + w.2) = w.1 + w.2 := wrap_id (by omega) (by omega)
  (refine gives_iff ?_; refine go_func Try.f5 rfl rfl (by simp [Try.f5]) ?_; dsimp only [codeL, Try.f5, scL, sopsL, guardL, dstAt, loopKey])
  (repeat (first
    | (apply is_ok; (case hw => simp [v1, v2, h3, h4, h5, v3]); (case he => simp [v1, v2, h3, h4, h5, v3]; exact is_rfl))
    | (apply op_no; (case hw => simp [v1, v2, h3, h4, h5, v3]))
    | refine op_nil ?_ | refine next_normal ?_ | refine go_seq ?_ | refine go_region ?_ | refine go_skip ?_ | refine go_block ?_ | refine inb_normal ?_
    | (apply go_yes; (case hc => simp [v1, v2, h3, h4, h5, v3])) | (apply go_no; (case hc => simp [v1, v2, h3, h4, h5, v3]))
    | refine go_exit ?_ | refine next_exit ?_ | refine inb_here ?_ | refine inb_past (by decide) ?_ | refine go_ret ?_ | refine next_ret ?_ | refine inb_ret ?_))
  refine go_count 300 (fun t => [(0, .sl (l.map exV)), (2, .int .i64 k), (4, .ptr 0 1 0 0), (7, .int .i64 a), (8, .bool b), (9, .int .i64 (w.1 + (t : Int)))]) (fun _ => [.box (.agg [.int .i64 w.1, .int .i64 w.2])]) (fun t => ∀ s : Nat, s < t → ¬ roomP l w k (w.1 + (s : Int))) (by simp) (fun s h => absurd h (Nat.not_lt_zero s)) fun t ht hI => ?_
  obtain ⟨n, hn⟩ : ∃ n, n = w.1 + (t : Int) := ⟨_, rfl⟩
  have hn1 : w.1 + ((t + 1 : Nat) : Int) = n + 1 := by omega
  rw [hn1, ← hn]
  have w1 : IntKind.i64.wrap (n + k) = n + k := wrap_id (by omega) (by omega)
  have w2 : IntKind.i64.wrap (n + 1) = n + 1 := wrap_id (by omega) (by omega)
  by_cases c1 : n + k ≤ w.1 + w.2
  · (repeat (first
    | (apply is_ok; (case hw => simp [c1, w1, ww]); (case he => simp [c1, w1, ww]; exact is_rfl))
    | (apply op_no; (case hw => simp [c1, w1, ww]))
    | refine op_nil ?_ | refine next_normal ?_ | refine go_seq ?_ | refine go_region ?_ | refine go_skip ?_ | refine go_block ?_ | refine inb_normal ?_
    | (apply go_yes; (case hc => simp [c1, w1, ww])) | (apply go_no; (case hc => simp [c1, w1, ww]))
    | refine go_exit ?_ | refine next_exit ?_ | refine inb_here ?_ | refine inb_past (by decide) ?_ | refine go_ret ?_ | refine next_ret ?_ | refine inb_ret ?_))
    refine go_count l.length (fun i => [(0, .sl (l.map exV)), (2, .int .i64 k), (4, .ptr 0 1 0 0), (7, .int .i64 a), (8, .bool b), (9, .int .i64 n), (10, .bool ((l.take i).all fun y => !decide (meetP (n, k) y))), (11, .int .i64 i)]) (fun _ => [.box (.agg [.int .i64 w.1, .int .i64 w.2])]) (fun _ => True) (by simp) trivial fun i hi _ => ?_
    by_cases hlt : i < l.length
    · have g1 : (i : Int) < l.length := by omega
      have g2 : l[i]? = some l[i] := List.getElem?_eq_getElem hlt
      have w3 : IntKind.i64.wrap ((i : Int) + 1) = (i : Int) + 1 := wrap_id (by omega) (by omega)
      obtain ⟨a1, a2, a3, a4⟩ := hb l[i] (List.getElem_mem hlt)
      have w4 : IntKind.i64.wrap (l[i].1 + l[i].2) = l[i].1 + l[i].2 := wrap_id (by omega) (by omega)
      have htk : ((l.take (i + 1)).all fun y => !decide (meetP (n, k) y)) = (((l.take i).all fun y => !decide (meetP (n, k) y)) && !decide (meetP (n, k) l[i])) := by
        rw [List.take_succ_eq_append_getElem hlt, List.all_append, List.all_cons, List.all_nil, Bool.and_true]
      rw [htk]
      generalize ((l.take i).all fun y => !decide (meetP (n, k) y)) = bb
      by_cases d1 : 0 < l[i].2
      · by_cases d2 : l[i].1 < n + k
        · by_cases d3 : n < l[i].1 + l[i].2
          · have hm : meetP (n, k) l[i] := ⟨by dsimp only; omega, d1, d3, d2⟩
            rw [decide_eq_true hm, Bool.not_true, Bool.and_false]
            (repeat (first
    | (apply is_ok; (case hw => simp [g1, g2, hlt, w1, w3, w4, d1, d2, d3, exV]); (case he => simp [g1, g2, hlt, w1, w3, w4, d1, d2, d3, exV]; exact is_rfl))
    | (apply op_no; (case hw => simp [g1, g2, hlt, w1, w3, w4, d1, d2, d3, exV]))
    | refine op_nil ?_ | refine next_normal ?_ | refine go_seq ?_ | refine go_region ?_ | refine go_skip ?_ | refine go_block ?_ | refine inb_normal ?_
    | (apply go_yes; (case hc => simp [g1, g2, hlt, w1, w3, w4, d1, d2, d3, exV])) | (apply go_no; (case hc => simp [g1, g2, hlt, w1, w3, w4, d1, d2, d3, exV]))
    | refine go_exit ?_ | refine next_exit ?_ | refine inb_here ?_ | refine inb_past (by decide) ?_ | refine go_ret ?_ | refine next_ret ?_ | refine inb_ret ?_))
            exact ⟨hlt, by simp [exV, w3], trivial⟩
          · have hm : ¬ meetP (n, k) l[i] := fun h => d3 h.2.2.1
            rw [decide_eq_false hm, Bool.not_false, Bool.and_true]
            (repeat (first
    | (apply is_ok; (case hw => simp [g1, g2, hlt, w1, w3, w4, d1, d2, d3, exV]); (case he => simp [g1, g2, hlt, w1, w3, w4, d1, d2, d3, exV]; exact is_rfl))
    | (apply op_no; (case hw => simp [g1, g2, hlt, w1, w3, w4, d1, d2, d3, exV]))
    | refine op_nil ?_ | refine next_normal ?_ | refine go_seq ?_ | refine go_region ?_ | refine go_skip ?_ | refine go_block ?_ | refine inb_normal ?_
    | (apply go_yes; (case hc => simp [g1, g2, hlt, w1, w3, w4, d1, d2, d3, exV])) | (apply go_no; (case hc => simp [g1, g2, hlt, w1, w3, w4, d1, d2, d3, exV]))
    | refine go_exit ?_ | refine next_exit ?_ | refine inb_here ?_ | refine inb_past (by decide) ?_ | refine go_ret ?_ | refine next_ret ?_ | refine inb_ret ?_))
            exact ⟨hlt, by simp [exV, w3], trivial⟩
        · have hm : ¬ meetP (n, k) l[i] := fun h => d2 h.2.2.2
          rw [decide_eq_false hm, Bool.not_false, Bool.and_true]
          (repeat (first
    | (apply is_ok; (case hw => simp [g1, g2, hlt, w1, w3, w4, d1, d2, exV]); (case he => simp [g1, g2, hlt, w1, w3, w4, d1, d2, exV]; exact is_rfl))
    | (apply op_no; (case hw => simp [g1, g2, hlt, w1, w3, w4, d1, d2, exV]))
    | refine op_nil ?_ | refine next_normal ?_ | refine go_seq ?_ | refine go_region ?_ | refine go_skip ?_ | refine go_block ?_ | refine inb_normal ?_
    | (apply go_yes; (case hc => simp [g1, g2, hlt, w1, w3, w4, d1, d2, exV])) | (apply go_no; (case hc => simp [g1, g2, hlt, w1, w3, w4, d1, d2, exV]))
    | refine go_exit ?_ | refine next_exit ?_ | refine inb_here ?_ | refine inb_past (by decide) ?_ | refine go_ret ?_ | refine next_ret ?_ | refine inb_ret ?_))
          exact ⟨hlt, by simp [exV, w3], trivial⟩
      · have hm : ¬ meetP (n, k) l[i] := fun h => d1 h.2.1
        rw [decide_eq_false hm, Bool.not_false, Bool.and_true]
        (repeat (first
    | (apply is_ok; (case hw => simp [g1, g2, hlt, w1, w3, w4, d1, exV]); (case he => simp [g1, g2, hlt, w1, w3, w4, d1, exV]; exact is_rfl))
    | (apply op_no; (case hw => simp [g1, g2, hlt, w1, w3, w4, d1, exV]))
    | refine op_nil ?_ | refine next_normal ?_ | refine go_seq ?_ | refine go_region ?_ | refine go_skip ?_ | refine go_block ?_ | refine inb_normal ?_
    | (apply go_yes; (case hc => simp [g1, g2, hlt, w1, w3, w4, d1, exV])) | (apply go_no; (case hc => simp [g1, g2, hlt, w1, w3, w4, d1, exV]))
    | refine go_exit ?_ | refine next_exit ?_ | refine inb_here ?_ | refine inb_past (by decide) ?_ | refine go_ret ?_ | refine next_ret ?_ | refine inb_ret ?_))
        exact ⟨hlt, by simp [exV, w3], trivial⟩
    · have : i = l.length := by omega
      subst this
      have g1 : ¬ (l.length : Int) < l.length := by omega
      rw [List.take_length]
      by_cases hr : ∀ y ∈ l, ¬ meetP (n, k) y
      · have hroom : roomP l w k n := ⟨hr, by omega, c1⟩
        rw [show (l.all fun y => !decide (meetP (n, k) y)) = true by rw [List.all_eq_true]; exact fun y hy => by simpa using hr y hy]
        obtain ⟨rfl, ha⟩ : b = true ∧ a = n := by
          rcases e2 with ⟨hb1, hf⟩ | ⟨_, _, hf⟩
          · refine ⟨hb1, ?_⟩
            obtain ⟨q1, q2⟩ := p1 a hf
            have q3 := q2 n hroom
            rcases Int.lt_or_eq_of_le q3 with q4 | q4
            · have q5 := q1.2.1
              have e : a = w.1 + ((a - w.1).toNat : Int) := by omega
              rw [e] at q1
              exact absurd q1 (hI _ (by omega))
            · exact q4
          · exact absurd hroom (p2 hf n)
        subst ha
        (repeat (first
    | (apply is_ok; (case hw => simp [g1, alive45_eq]); (case he => simp [g1, alive45_eq]; exact is_rfl))
    | (apply op_no; (case hw => simp [g1, alive45_eq]))
    | refine op_nil ?_ | refine next_normal ?_ | refine go_seq ?_ | refine go_region ?_ | refine go_skip ?_ | refine go_block ?_ | refine inb_normal ?_
    | (apply go_yes; (case hc => simp [g1, alive45_eq])) | (apply go_no; (case hc => simp [g1, alive45_eq]))
    | refine go_exit ?_ | refine next_exit ?_ | refine inb_here ?_ | refine inb_past (by decide) ?_ | refine go_ret ?_ | refine next_ret ?_ | refine inb_ret ?_))
        (apply ends_ok; (case h1 => simp; exact is_rfl); (case h2 => simp; exact is_rfl))
        simp
      · rw [show (l.all fun y => !decide (meetP (n, k) y)) = false by rw [Bool.eq_false_iff]; intro h; rw [List.all_eq_true] at h; exact hr fun y hy => by simpa using h y hy]
        have hno : ¬ roomP l w k n := fun h => hr h.1
        (repeat (first
    | (apply is_ok; (case hw => simp [g1, w2]); (case he => simp [g1, w2]; exact is_rfl))
    | (apply op_no; (case hw => simp [g1, w2]))
    | refine op_nil ?_ | refine next_normal ?_ | refine go_seq ?_ | refine go_region ?_ | refine go_skip ?_ | refine go_block ?_ | refine inb_normal ?_
    | (apply go_yes; (case hc => simp [g1, w2])) | (apply go_no; (case hc => simp [g1, w2]))
    | refine go_exit ?_ | refine next_exit ?_ | refine inb_here ?_ | refine inb_past (by decide) ?_ | refine go_ret ?_ | refine next_ret ?_ | refine inb_ret ?_))
        refine ⟨by omega, by simp [w2], fun s hs => ?_⟩
        rcases Nat.lt_or_ge s t with h | h
        · exact hI s h
        · have : s = t := by omega
          subst this
          rw [← hn]
          exact hno
  · obtain ⟨rfl, rfl⟩ : b = false ∧ a = 0 := by
      rcases e2 with ⟨_, hf⟩ | ⟨h1, h2, _⟩
      · obtain ⟨q1, _⟩ := p1 a hf
        have q5 := q1.2.1
        have q6 := q1.2.2
        have e : a = w.1 + ((a - w.1).toNat : Int) := by omega
        rw [e] at q1
        exact absurd q1 (hI _ (by omega))
      · exact ⟨h1, h2⟩
    (repeat (first
    | (apply is_ok; (case hw => simp [c1, w1, ww, alive45_eq]); (case he => simp [c1, w1, ww, alive45_eq]; exact is_rfl))
    | (apply op_no; (case hw => simp [c1, w1, ww, alive45_eq]))
    | refine op_nil ?_ | refine next_normal ?_ | refine go_seq ?_ | refine go_region ?_ | refine go_skip ?_ | refine go_block ?_ | refine inb_normal ?_
    | (apply go_yes; (case hc => simp [c1, w1, ww, alive45_eq])) | (apply go_no; (case hc => simp [c1, w1, ww, alive45_eq]))
    | refine go_exit ?_ | refine next_exit ?_ | refine inb_here ?_ | refine inb_past (by decide) ?_ | refine go_ret ?_ | refine next_ret ?_ | refine inb_ret ?_))
    (apply ends_ok; (case h1 => simp; exact is_rfl); (case h2 => simp; exact is_rfl))
    simp
end Go.Abs
