/- Proved here: what functions of the program compute, over the evaluator. No condition but those that each theorem states. -/
import Derived.Test.YthpkihimboiglaaH5
import Derived.Test.YthpkihimboiglaaH1
namespace Go.Abs
open Go.Proofs
set_option maxRecDepth 100000
set_option linter.unusedSimpArgs false
set_option linter.unusedVariables false

theorem best_spec {l : List Ex} {w : Ex} {k : Int} : ∀ (cs : List Int) (b : Int), (∀ n ∈ cs, 0 ≤ n) → (b < 0 → b = -1) →
    (cs.foldl (bestS l w k) b = b ∨ (cs.foldl (bestS l w k) b ∈ cs ∧ roomP l w k (cs.foldl (bestS l w k) b))) ∧ (∀ n ∈ cs, roomP l w k n → 0 ≤ cs.foldl (bestS l w k) b ∧ cs.foldl (bestS l w k) b ≤ n) ∧ (0 ≤ b → 0 ≤ cs.foldl (bestS l w k) b ∧ cs.foldl (bestS l w k) b ≤ b)
  | [], b, _, _ => ⟨.inl rfl, (fun n hn => by cases hn), fun h => ⟨h, Int.le_refl _⟩⟩
  | n :: r, b, hp, hb => by
    have hn := hp n (by simp)
    rw [List.foldl_cons]
    by_cases hc : roomP l w k n ∧ (b < 0 ∨ n < b)
    · rw [show bestS l w k b n = n from if_pos hc]
      obtain ⟨i1, i2, i3⟩ := best_spec r n (fun m hm => hp m (by simp [hm])) (fun h => by omega)
      obtain ⟨i4, i5⟩ := i3 hn
      refine ⟨.inr ?_, fun m hm hr => ?_, fun h => ⟨i4, by omega⟩⟩
      · rcases i1 with h | ⟨h1, h2⟩
        · rw [h]; exact ⟨by simp, hc.1⟩
        · exact ⟨by simp [h1], h2⟩
      · rcases List.mem_cons.1 hm with rfl | hm
        · exact ⟨i4, i5⟩
        · exact i2 m hm hr
    · rw [show bestS l w k b n = b from if_neg hc]
      obtain ⟨i1, i2, i3⟩ := best_spec r b (fun m hm => hp m (by simp [hm])) hb
      refine ⟨?_, fun m hm hr => ?_, i3⟩
      · rcases i1 with h | ⟨h1, h2⟩
        · exact .inl h
        · exact .inr ⟨by simp [h1], h2⟩
      · rcases List.mem_cons.1 hm with rfl | hm
        · have : 0 ≤ b ∧ b ≤ m := by
            have h1 : ¬ (b < 0 ∨ m < b) := fun h => hc ⟨hr, h⟩
            omega
          obtain ⟨i4, i5⟩ := i3 this.1
          exact ⟨i4, by omega⟩
        · exact i2 m hm hr

theorem sorted_pair (l : List Int) : (sorted l).Pairwise (· ≤ ·) := by
  rw [sorted_eq]
  have tr : ∀ (a b c : Int), decide (a ≤ b) = true → decide (b ≤ c) = true → decide (a ≤ c) = true := fun a b c h1 h2 => by simp at *; omega
  have tt : ∀ (a b : Int), (decide (a ≤ b) || decide (b ≤ a)) = true := fun a b => by simp; omega
  exact (List.pairwise_mergeSort tr tt l).imp fun h => by simpa using h
theorem cand_pos {l : List Ex} {w : Ex} {m : Int} : candP l w m ↔ m ∈ posC l w := by
  unfold candP posC
  rw [List.mem_cons, List.mem_map]
  constructor
  · rintro (h | ⟨y, h1, h2, h3⟩)
    · exact .inl h
    · exact .inr ⟨y, List.mem_filter.2 ⟨h1, by simpa using h2⟩, h3.symm⟩
  · rintro (h | ⟨y, h1, h2⟩)
    · exact .inl h
    · obtain ⟨h3, h4⟩ := List.mem_filter.1 h1
      exact .inr ⟨y, h3, by simpa using h4, h2.symm⟩
theorem pos_all {l : List Ex} {w : Ex} {m : Int} (h : m ∈ posC l w) : m ∈ allC l w := by
  unfold posC at h
  unfold allC
  rcases List.mem_cons.1 h with h | h
  · exact List.mem_cons.2 (.inl h)
  · obtain ⟨y, h1, h2⟩ := List.mem_map.1 h
    exact List.mem_cons.2 (.inr (List.mem_map.2 ⟨y, (List.mem_filter.1 h1).1, h2⟩))

theorem fits {l : List Ex} {w : Ex} {k : Int} (hb : ∀ y ∈ l, UsuP y) (hw : UsuP w) (hk : 0 < k) : (∃ n, leastR l w k (posC l w) = some n ∧ bestF l w k (allC l w) = n ∧ 0 ≤ n) ∨ (leastR l w k (posC l w) = none ∧ bestF l w k (allC l w) = -1) := by
  have hp : ∀ n ∈ allC l w, 0 ≤ n := fun n hn => by
    rcases List.mem_cons.1 hn with rfl | hn
    · exact hw.1
    · obtain ⟨y, hy, rfl⟩ := List.mem_map.1 hn
      have := hb y hy
      have h1 := this.1
      have h2 := this.2.2.1
      omega
  obtain ⟨b1, b2, _⟩ := best_spec (l := l) (w := w) (k := k) (allC l w) (-1) hp (fun _ => rfl)
  change bestF l w k (allC l w) = -1 ∨ _ at b1
  change ∀ n ∈ allC l w, roomP l w k n → 0 ≤ bestF l w k (allC l w) ∧ bestF l w k (allC l w) ≤ n at b2
  cases hc : leastR l w k (posC l w) with
  | some n =>
    left
    obtain ⟨c1, c2, c3⟩ := find_sorted_min (sorted_pair _) hc
    have c2' : roomP l w k n := by simpa using c2
    obtain ⟨d1, d2⟩ := b2 n (pos_all (sorted_mem.1 c1)) c2'
    rcases b1 with h | ⟨h1, h2⟩
    · omega
    · obtain ⟨m, m1, m2, m3⟩ := room_cand hk h2
      have := c3 m (sorted_mem.2 (cand_pos.1 m1)) (by simpa using m3)
      change bestF l w k (allC l w) ∈ _ at h1
      change m ≤ bestF l w k (allC l w) at m2
      exact ⟨n, rfl, by omega, by omega⟩
  | none =>
    right
    refine ⟨rfl, ?_⟩
    rcases b1 with h | ⟨h1, h2⟩
    · exact h
    · obtain ⟨m, m1, m2, m3⟩ := room_cand hk h2
      unfold leastR at hc
      rw [List.find?_eq_none] at hc
      exact absurd (by simpa using m3) (hc m (sorted_mem.2 (cand_pos.1 m1)))

def UsuL (l : List Ex) : Prop := l.length ≤ 100 ∧ ∀ y ∈ l, UsuP y
instance (l : List Ex) : Decidable (UsuL l) := by unfold UsuL; infer_instance
theorem usual_eq (l : List Ex) (hl : l.length ≤ maxLen) : bodyW DC 8 [.sl (l.map exV)] [] = some (.bool (decide (UsuL l)), []) := by
  (refine gives_iff ?_; refine go_func Try.f8 rfl rfl (by simp [Try.f8]) ?_; dsimp only [codeL, Try.f8, scL, sopsL, guardL, dstAt, loopKey])
  (repeat (first
    | (apply is_ok; (case hw => simp); (case he => simp; exact is_rfl))
    | (apply op_no; (case hw => simp))
    | refine op_nil ?_ | refine next_normal ?_ | refine go_seq ?_ | refine go_region ?_ | refine go_skip ?_ | refine go_block ?_ | refine inb_normal ?_
    | (apply go_yes; (case hc => simp)) | (apply go_no; (case hc => simp))
    | refine go_exit ?_ | refine next_exit ?_ | refine inb_here ?_ | refine inb_past (by decide) ?_ | refine go_ret ?_ | refine next_ret ?_ | refine inb_ret ?_))
  refine go_count (min l.length 101) (fun i => [(0, .sl (l.map exV)), (3, .int .i64 i)]) (fun _ => []) (fun i => ∀ j (h : j < l.length), j < i → UsuP l[j]) (by simp) (fun j _ h => absurd h (Nat.not_lt_zero j)) fun i hi hI => ?_
  by_cases hlt : i < l.length
  · have g1 : (i : Int) < l.length := by omega
    by_cases h101 : i < 101
    · have g3 : (i : Int) < 101 := by omega
      have g2 : l[i]? = some l[i] := List.getElem?_eq_getElem hlt
      have w1 : IntKind.i64.wrap ((i : Int) + 1) = (i : Int) + 1 := wrap_id (by omega) (by omega)
      have v1 := Usual_eq l[i]
      by_cases hu : UsuP l[i]
      · rw [decide_eq_true hu] at v1
        (repeat (first
    | (apply is_ok; (case hw => simp [g1, g2, g3, hlt, v1, w1, exV]); (case he => simp [g1, g2, g3, hlt, v1, w1, exV]; exact is_rfl))
    | (apply op_no; (case hw => simp [g1, g2, g3, hlt, v1, w1, exV]))
    | refine op_nil ?_ | refine next_normal ?_ | refine go_seq ?_ | refine go_region ?_ | refine go_skip ?_ | refine go_block ?_ | refine inb_normal ?_
    | (apply go_yes; (case hc => simp [g1, g2, g3, hlt, v1, w1, exV])) | (apply go_no; (case hc => simp [g1, g2, g3, hlt, v1, w1, exV]))
    | refine go_exit ?_ | refine next_exit ?_ | refine inb_here ?_ | refine inb_past (by decide) ?_ | refine go_ret ?_ | refine next_ret ?_ | refine inb_ret ?_))
        exact ⟨by omega, by simp [exV, w1], fun j h hj => by
          rcases Nat.lt_or_ge j i with h1 | h1
          · exact hI j h h1
          · have : j = i := by omega
            subst this
            exact hu⟩
      · rw [decide_eq_false hu] at v1
        rw [decide_eq_false (show ¬ UsuL l from fun h => hu (h.2 _ (List.getElem_mem hlt)))]
        (repeat (first
    | (apply is_ok; (case hw => simp [g1, g2, g3, hlt, v1, exV]); (case he => simp [g1, g2, g3, hlt, v1, exV]; exact is_rfl))
    | (apply op_no; (case hw => simp [g1, g2, g3, hlt, v1, exV]))
    | refine op_nil ?_ | refine next_normal ?_ | refine go_seq ?_ | refine go_region ?_ | refine go_skip ?_ | refine go_block ?_ | refine inb_normal ?_
    | (apply go_yes; (case hc => simp [g1, g2, g3, hlt, v1, exV])) | (apply go_no; (case hc => simp [g1, g2, g3, hlt, v1, exV]))
    | refine go_exit ?_ | refine next_exit ?_ | refine inb_here ?_ | refine inb_past (by decide) ?_ | refine go_ret ?_ | refine next_ret ?_ | refine inb_ret ?_))
        (apply ends_ok; (case h1 => simp; exact is_rfl); (case h2 => simp; exact is_rfl))
        simp
    · have g3 : ¬ (i : Int) < 101 := by omega
      have g4 : ¬ (l.length : Int) ≤ 100 := by omega
      rw [decide_eq_false (show ¬ UsuL l from fun h => by have := h.1; omega)]
      (repeat (first
    | (apply is_ok; (case hw => simp [g1, g3, g4]); (case he => simp [g1, g3, g4]; exact is_rfl))
    | (apply op_no; (case hw => simp [g1, g3, g4]))
    | refine op_nil ?_ | refine next_normal ?_ | refine go_seq ?_ | refine go_region ?_ | refine go_skip ?_ | refine go_block ?_ | refine inb_normal ?_
    | (apply go_yes; (case hc => simp [g1, g3, g4])) | (apply go_no; (case hc => simp [g1, g3, g4]))
    | refine go_exit ?_ | refine next_exit ?_ | refine inb_here ?_ | refine inb_past (by decide) ?_ | refine go_ret ?_ | refine next_ret ?_ | refine inb_ret ?_))
      (apply ends_ok; (case h1 => simp; exact is_rfl); (case h2 => simp; exact is_rfl))
      simp [g4]
  · have g1 : ¬ (i : Int) < l.length := by omega
    have g5 : l.length ≤ 101 := by omega
    by_cases h101 : l.length = 101
    · have g4 : ¬ (l.length : Int) ≤ 100 := by omega
      rw [decide_eq_false (show ¬ UsuL l from fun h => by have := h.1; omega)]
      (repeat (first
    | (apply is_ok; (case hw => simp [g1, g4]); (case he => simp [g1, g4]; exact is_rfl))
    | (apply op_no; (case hw => simp [g1, g4]))
    | refine op_nil ?_ | refine next_normal ?_ | refine go_seq ?_ | refine go_region ?_ | refine go_skip ?_ | refine go_block ?_ | refine inb_normal ?_
    | (apply go_yes; (case hc => simp [g1, g4])) | (apply go_no; (case hc => simp [g1, g4]))
    | refine go_exit ?_ | refine next_exit ?_ | refine inb_here ?_ | refine inb_past (by decide) ?_ | refine go_ret ?_ | refine next_ret ?_ | refine inb_ret ?_))
      (apply ends_ok; (case h1 => simp; exact is_rfl); (case h2 => simp; exact is_rfl))
      simp [g4]
    have g4 : (l.length : Int) ≤ 100 := by omega
    rw [decide_eq_true (show UsuL l from ⟨by omega, fun y hy => by
      obtain ⟨j, hj, rfl⟩ := List.mem_iff_getElem.1 hy
      exact hI j hj (by omega)⟩)]
    (repeat (first
    | (apply is_ok; (case hw => simp [g1, g4]); (case he => simp [g1, g4]; exact is_rfl))
    | (apply op_no; (case hw => simp [g1, g4]))
    | refine op_nil ?_ | refine next_normal ?_ | refine go_seq ?_ | refine go_region ?_ | refine go_skip ?_ | refine go_block ?_ | refine inb_normal ?_
    | (apply go_yes; (case hc => simp [g1, g4])) | (apply go_no; (case hc => simp [g1, g4]))
    | refine go_exit ?_ | refine next_exit ?_ | refine inb_here ?_ | refine inb_past (by decide) ?_ | refine go_ret ?_ | refine next_ret ?_ | refine inb_ret ?_))
    (apply ends_ok; (case h1 => simp; exact is_rfl); (case h2 => simp; exact is_rfl))
    simp [g4]

theorem L_SwapFits (l : List Ex) (hl : l.length ≤ maxLen) (w : Ex) (k : Int) : bodyW DC 3 [.sl (l.map exV), .agg [.int .i64 w.1, .int .i64 w.2], .int .i64 k] [] = some (.bool true, []) := by
  have v1 := usual_eq l hl
  have v2 := Usual_eq w
  by_cases h1 : UsuL l
  case neg =>
    rw [decide_eq_false h1] at v1
    generalize decide (UsuP w) = b at v2
    (refine gives_iff ?_; refine go_func Try.f3 rfl rfl (by simp [Try.f3]) ?_; dsimp only [codeL, Try.f3, scL, sopsL, guardL, dstAt, loopKey])
    (repeat (first
    | (apply is_ok; (case hw => simp [v1, v2]); (case he => simp [v1, v2]; exact is_rfl))
    | (apply op_no; (case hw => simp [v1, v2]))
    | refine op_nil ?_ | refine next_normal ?_ | refine go_seq ?_ | refine go_region ?_ | refine go_skip ?_ | refine go_block ?_ | refine inb_normal ?_
    | (apply go_yes; (case hc => simp [v1, v2])) | (apply go_no; (case hc => simp [v1, v2]))
    | refine go_exit ?_ | refine next_exit ?_ | refine inb_here ?_ | refine inb_past (by decide) ?_ | refine go_ret ?_ | refine next_ret ?_ | refine inb_ret ?_))
    (apply ends_ok; (case h1 => simp; exact is_rfl); (case h2 => simp; exact is_rfl))
    simp
  rw [decide_eq_true h1] at v1
  by_cases h2 : UsuP w
  case neg =>
    rw [decide_eq_false h2] at v2
    (refine gives_iff ?_; refine go_func Try.f3 rfl rfl (by simp [Try.f3]) ?_; dsimp only [codeL, Try.f3, scL, sopsL, guardL, dstAt, loopKey])
    (repeat (first
    | (apply is_ok; (case hw => simp [v1, v2]); (case he => simp [v1, v2]; exact is_rfl))
    | (apply op_no; (case hw => simp [v1, v2]))
    | refine op_nil ?_ | refine next_normal ?_ | refine go_seq ?_ | refine go_region ?_ | refine go_skip ?_ | refine go_block ?_ | refine inb_normal ?_
    | (apply go_yes; (case hc => simp [v1, v2])) | (apply go_no; (case hc => simp [v1, v2]))
    | refine go_exit ?_ | refine next_exit ?_ | refine inb_here ?_ | refine inb_past (by decide) ?_ | refine go_ret ?_ | refine next_ret ?_ | refine inb_ret ?_))
    (apply ends_ok; (case h1 => simp; exact is_rfl); (case h2 => simp; exact is_rfl))
    simp
  rw [decide_eq_true h2] at v2
  have v3 := Fit_eq l h1.1 h1.2 w h2 k
  have v4 := FitR_eq l h1.1 h1.2 w h2 k
  obtain ⟨a, b, e1, e2⟩ : ∃ a b, (if k < 1 ∨ w.2 < k then V.tuple [.int .i64 0, .bool false] else match leastR l w k (posC l w) with | some n => .tuple [.int .i64 n, .bool true] | none => .tuple [.int .i64 0, .bool false]) = .tuple [.int .i64 a, .bool b] ∧
      (if k < 1 ∨ 1048576 < k then V.tuple [.int .i64 0, .bool false] else if bestF l w k (allC l w) < 0 then .tuple [.int .i64 0, .bool false] else .tuple [.int .i64 (bestF l w k (allC l w)), .bool true]) = .tuple [.int .i64 a, .bool b] := by
    by_cases c1 : k < 1
    · exact ⟨0, false, by rw [if_pos (.inl c1)], by rw [if_pos (.inl c1)]⟩
    obtain ⟨z1, z2, z3, z4⟩ := h2
    rcases fits h1.2 ⟨z1, z2, z3, z4⟩ (show 0 < k by omega) with ⟨n, f1, f2, f3⟩ | ⟨f1, f2⟩
    · have hk : k ≤ w.2 := by
        obtain ⟨c1, c2, c3⟩ := find_sorted_min (sorted_pair _) f1
        have c2' : roomP l w k n := by simpa using c2
        have h3 := c2'.2.1
        have h4 := c2'.2.2
        omega
      refine ⟨n, true, ?_, ?_⟩
      · rw [if_neg (by omega), f1]
      · rw [if_neg (by omega), f2, if_neg (by omega)]
    · refine ⟨0, false, ?_, ?_⟩
      · rw [f1]
        split <;> rfl
      · rw [f2]
        split
        · rfl
        · rfl
  have v3' := v3.trans (congrArg (fun z => some (z, ([] : Heap))) e1)
  have v4' := v4.trans (congrArg (fun z => some (z, ([] : Heap))) e2)
  (refine gives_iff ?_; refine go_func Try.f3 rfl rfl (by simp [Try.f3]) ?_; dsimp only [codeL, Try.f3, scL, sopsL, guardL, dstAt, loopKey])
  (repeat (first
    | (apply is_ok; (case hw => simp [v1, v2, v3', v4', alive45_eq]); (case he => simp [v1, v2, v3', v4', alive45_eq]; exact is_rfl))
    | (apply op_no; (case hw => simp [v1, v2, v3', v4', alive45_eq]))
    | refine op_nil ?_ | refine next_normal ?_ | refine go_seq ?_ | refine go_region ?_ | refine go_skip ?_ | refine go_block ?_ | refine inb_normal ?_
    | (apply go_yes; (case hc => simp [v1, v2, v3', v4', alive45_eq])) | (apply go_no; (case hc => simp [v1, v2, v3', v4', alive45_eq]))
    | refine go_exit ?_ | refine next_exit ?_ | refine inb_here ?_ | refine inb_past (by decide) ?_ | refine go_ret ?_ | refine next_ret ?_ | refine inb_ret ?_))
  (apply ends_ok; (case h1 => simp; exact is_rfl); (case h2 => simp; exact is_rfl))
  simp

/-- The arguments of the law. -/
theorem ex_cells {n : Nat} {cs : List V} (h : HasT Try.prog n 24 cs) : ∃ p : Ex, .agg cs = exV p := by
  obtain ⟨m, rfl, h1, h2⟩ := hasT_struct Try.underlying24 h
  have hl : cs.length = 2 := h1.trans (by kernel_rfl)
  match cs, hl with
  | [a, b], _ =>
    have f0 := h2 0 _ rfl
    have f1 := h2 1 _ rfl
    obtain ⟨y, e1, hY⟩ := hasT_int Try.underlying3 f0
    obtain ⟨z, e2, hZ⟩ := hasT_int Try.underlying3 f1
    have e1' : [a] = [V.int .i64 y] := e1
    have e2' : [b] = [V.int .i64 z] := e2
    cases e1'
    cases e2'
    exact ⟨(y, z), rfl⟩
theorem exs_of {x : V} (h : ArgT Try.prog 22 x) : ∃ l : List Ex, x = .sl (l.map exV) ∧ l.length ≤ maxLen := by
  obtain ⟨n, h1, h2⟩ := h
  rw [show aggT Try.prog 22 = some false by kernel_rfl] at h2
  rw [cells_one (Option.some.inj h2).symm] at h1
  obtain ⟨m, es, rfl, h3, h4, h5⟩ := hasT_slice Try.underlying22 (cells_ne (n := 2) (by kernel_rfl) (by decide)) h1
  cases h3
  obtain ⟨l, rfl, hp⟩ := map_of (p := fun _ => True) (f := exV) fun x hx => by
    obtain ⟨h6, h7⟩ := h5 x hx
    rw [show aggT Try.prog 24 = some true by kernel_rfl] at h6
    obtain ⟨cs, rfl⟩ := cells_some (Option.some.inj h6).symm
    obtain ⟨w, h8⟩ := ex_cells h7
    exact ⟨w, h8, trivial⟩
  exact ⟨l, rfl, by simpa using h4⟩
theorem ex_of {x : V} (h : ArgT Try.prog 24 x) : ∃ p : Ex, x = .agg [.int .i64 p.1, .int .i64 p.2] := by
  obtain ⟨n, h1, h2⟩ := h
  rw [show aggT Try.prog 24 = some true by kernel_rfl] at h2
  obtain ⟨cs, rfl⟩ := cells_some (Option.some.inj h2).symm
  exact ex_cells h1
end Go.Abs
