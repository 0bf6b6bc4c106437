/- Proved here: what functions of the program compute, over the evaluator. No condition but those that each theorem states. -/
import Derived.Test.YthpkihimboiglaaH10
namespace Go.Abs
open Go.Proofs
set_option maxRecDepth 100000
set_option linter.unusedSimpArgs false
set_option linter.unusedVariables false

/-- Are the extents of a system right? -/
def rightP (s : Sys) : Prop := UsuP s.co ∧ UsuP s.sw ∧ ¬ (0 < s.co.2 ∧ (s.mem.length : Int) < (s.co.1 + s.co.2) * 32) ∧ ¬ (0 < s.sw.2 ∧ (s.S.length : Int) < s.sw.1 + s.sw.2) ∧ (∀ p ∈ s.ps, hasP p → UsuP (p.base, p.blk))
noncomputable def rightB (s : Sys) : Bool := @decide (rightP s) (Classical.propDecidable _) && apB (coreL s.ps) s.co && apB (swpL s.ps) s.sw
theorem rightB_no {s : Sys} (h : ¬ rightP s) : rightB s = false := by unfold rightB; simp [h]
theorem rightB_yes {s : Sys} (h : rightP s) : rightB s = (apB (coreL s.ps) s.co && apB (swpL s.ps) s.sw) := by unfold rightB; simp [h]

theorem coreL_up {ps : List Pr} (h : ∀ p ∈ ps, hasP p → UsuP (p.base, p.blk)) : ∀ y ∈ coreL ps, UpP y := by
  intro y hy
  obtain ⟨p, hp, rfl⟩ := List.mem_map.1 hy
  obtain ⟨h1, h2⟩ := List.mem_filter.1 hp
  have h3 : hasP p := by
    rw [Bool.and_eq_true] at h2
    exact of_decide_eq_true h2.1
  have h4 := h p h1 h3
  have h5 := h3.2
  exact ⟨h4.1, by have := h4.2.1; dsimp only at this ⊢; omega, by dsimp only; omega, by have := h4.2.2.2; dsimp only at this ⊢; omega⟩
theorem secN_bound {n : Int} (h1 : 1 ≤ n) (h2 : n ≤ 1048576) : 0 < secN n ∧ secN n ≤ 1048576 ∧ secN n = n / 2 + n % 2 := by
  unfold secN
  rw [if_neg (by omega)]
  omega
theorem swpL_up {ps : List Pr} (h : ∀ p ∈ ps, hasP p → UsuP (p.base, p.blk)) : ∀ y ∈ swpL ps, UpP y := by
  intro y hy
  obtain ⟨p, hp, rfl⟩ := List.mem_map.1 hy
  obtain ⟨h1, h2⟩ := List.mem_filter.1 hp
  have h3 : hasP p := by
    rw [Bool.and_eq_true] at h2
    exact of_decide_eq_true h2.1
  have h4 := h p h1 h3
  have h5 := h3.2
  have h6 := secN_bound h5 h4.2.2.2
  exact ⟨h4.1, by have := h4.2.1; dsimp only at this ⊢; omega, h6.1, by dsimp only; omega⟩
theorem UsuP.big {a : Ex} (h : UsuP a) : BigP a := ⟨h.1, by have := h.2.1; omega, h.2.2.1, by have := h.2.2.2; omega⟩

set_option maxHeartbeats 4000000 in
theorem swRight_eq (s : Sys) (hm : s.mem.length ≤ 1000000) (hS : s.S.length ≤ 1000000) (hk : ∀ p ∈ s.ps, -9223372036854775808 ≤ p.blk ∧ p.blk ≤ 9223372036854775807) : bodyW DC 20 [.agg s.cells] [] = some (.bool (rightB s), []) := by
  have hps := s.hps
  have v1 := swSmall_eq s.co
  have v2 := swSmall_eq s.sw
  generalize hB : rightB s = B
  by_cases c1 : UsuP s.co
  case neg =>
    obtain rfl : B = false := by rw [← hB]; exact rightB_no fun h => c1 h.1
    rw [decide_eq_false c1] at v1
    by_cases c2 : UsuP s.sw
    · rw [decide_eq_true c2] at v2
      (refine gives_iff ?_; refine go_func Try.f20 rfl rfl (by simp [Try.f20]) ?_; dsimp only [codeL, Try.f20, scL, sopsL, guardL, dstAt, loopKey])
      (repeat (first
    | (apply is_ok; (case hw => simp [v1, v2, exV]); (case he => simp [v1, v2, exV]; exact is_rfl))
    | (apply op_no; (case hw => simp [v1, v2, exV]))
    | refine op_nil ?_ | refine next_normal ?_ | refine go_seq ?_ | refine go_region ?_ | refine go_skip ?_ | refine go_block ?_ | refine inb_normal ?_
    | (apply go_yes; (case hc => simp [v1, v2, exV])) | (apply go_no; (case hc => simp [v1, v2, exV]))
    | refine go_exit ?_ | refine next_exit ?_ | refine inb_here ?_ | refine inb_past (by decide) ?_ | refine go_ret ?_ | refine next_ret ?_ | refine inb_ret ?_))
      (apply ends_ok; (case h1 => simp; exact is_rfl); (case h2 => simp; exact is_rfl))
      simp
    · rw [decide_eq_false c2] at v2
      (refine gives_iff ?_; refine go_func Try.f20 rfl rfl (by simp [Try.f20]) ?_; dsimp only [codeL, Try.f20, scL, sopsL, guardL, dstAt, loopKey])
      (repeat (first
    | (apply is_ok; (case hw => simp [v1, v2, exV]); (case he => simp [v1, v2, exV]; exact is_rfl))
    | (apply op_no; (case hw => simp [v1, v2, exV]))
    | refine op_nil ?_ | refine next_normal ?_ | refine go_seq ?_ | refine go_region ?_ | refine go_skip ?_ | refine go_block ?_ | refine inb_normal ?_
    | (apply go_yes; (case hc => simp [v1, v2, exV])) | (apply go_no; (case hc => simp [v1, v2, exV]))
    | refine go_exit ?_ | refine next_exit ?_ | refine inb_here ?_ | refine inb_past (by decide) ?_ | refine go_ret ?_ | refine next_ret ?_ | refine inb_ret ?_))
      (apply ends_ok; (case h1 => simp; exact is_rfl); (case h2 => simp; exact is_rfl))
      simp
  rw [decide_eq_true c1] at v1
  by_cases c2 : UsuP s.sw
  case neg =>
    obtain rfl : B = false := by rw [← hB]; exact rightB_no fun h => c2 h.2.1
    rw [decide_eq_false c2] at v2
    (refine gives_iff ?_; refine go_func Try.f20 rfl rfl (by simp [Try.f20]) ?_; dsimp only [codeL, Try.f20, scL, sopsL, guardL, dstAt, loopKey])
    (repeat (first
    | (apply is_ok; (case hw => simp [v1, v2, exV]); (case he => simp [v1, v2, exV]; exact is_rfl))
    | (apply op_no; (case hw => simp [v1, v2, exV]))
    | refine op_nil ?_ | refine next_normal ?_ | refine go_seq ?_ | refine go_region ?_ | refine go_skip ?_ | refine go_block ?_ | refine inb_normal ?_
    | (apply go_yes; (case hc => simp [v1, v2, exV])) | (apply go_no; (case hc => simp [v1, v2, exV]))
    | refine go_exit ?_ | refine next_exit ?_ | refine inb_here ?_ | refine inb_past (by decide) ?_ | refine go_ret ?_ | refine next_ret ?_ | refine inb_ret ?_))
    (apply ends_ok; (case h1 => simp; exact is_rfl); (case h2 => simp; exact is_rfl))
    simp
  rw [decide_eq_true c2] at v2
  have u1 := c1.1
  have u2 := c1.2.1
  have u3 := c1.2.2.1
  have u4 := c1.2.2.2
  have u5 := c2.1
  have u6 := c2.2.1
  have u7 := c2.2.2.1
  have u8 := c2.2.2.2
  have v3 := end_eq s.co c1.big
  have v4 := end_eq s.sw c2.big
  have w1 : IntKind.i64.wrap ((s.co.1 + s.co.2) * 64) = (s.co.1 + s.co.2) * 64 := wrap_id (by omega) (by omega)
  have w2 : IntKind.i64.wrap (2 * (s.mem.length : Int)) = 2 * (s.mem.length : Int) := wrap_id (by omega) (by omega)
  by_cases c3 : 0 < s.co.2 ∧ (s.mem.length : Int) < (s.co.1 + s.co.2) * 32
  · obtain rfl : B = false := by rw [← hB]; exact rightB_no fun h => h.2.2.1 c3
    obtain ⟨c4, c5⟩ := c3
    have c6 : 2 * (s.mem.length : Int) < (s.co.1 + s.co.2) * 64 := by omega
    (refine gives_iff ?_; refine go_func Try.f20 rfl rfl (by simp [Try.f20]) ?_; dsimp only [codeL, Try.f20, scL, sopsL, guardL, dstAt, loopKey])
    (repeat (first
    | (apply is_ok; (case hw => simp [v1, v2, v3, v4, exV, w1, w2, c4, c6]); (case he => simp [v1, v2, v3, v4, exV, w1, w2, c4, c6]; exact is_rfl))
    | (apply op_no; (case hw => simp [v1, v2, v3, v4, exV, w1, w2, c4, c6]))
    | refine op_nil ?_ | refine next_normal ?_ | refine go_seq ?_ | refine go_region ?_ | refine go_skip ?_ | refine go_block ?_ | refine inb_normal ?_
    | (apply go_yes; (case hc => simp [v1, v2, v3, v4, exV, w1, w2, c4, c6])) | (apply go_no; (case hc => simp [v1, v2, v3, v4, exV, w1, w2, c4, c6]))
    | refine go_exit ?_ | refine next_exit ?_ | refine inb_here ?_ | refine inb_past (by decide) ?_ | refine go_ret ?_ | refine next_ret ?_ | refine inb_ret ?_))
    (apply ends_ok; (case h1 => simp; exact is_rfl); (case h2 => simp; exact is_rfl))
    simp
  by_cases c7 : 0 < s.sw.2 ∧ (s.S.length : Int) < s.sw.1 + s.sw.2
  · obtain rfl : B = false := by rw [← hB]; exact rightB_no fun h => h.2.2.2.1 c7
    obtain ⟨c8, c9⟩ := c7
    by_cases c4 : 0 < s.co.2
    · have c6 : ¬ 2 * (s.mem.length : Int) < (s.co.1 + s.co.2) * 64 := by have := fun h => c3 ⟨c4, h⟩; omega
      (refine gives_iff ?_; refine go_func Try.f20 rfl rfl (by simp [Try.f20]) ?_; dsimp only [codeL, Try.f20, scL, sopsL, guardL, dstAt, loopKey])
      (repeat (first
    | (apply is_ok; (case hw => simp [v1, v2, v3, v4, exV, w1, w2, c4, c6, c8, c9]); (case he => simp [v1, v2, v3, v4, exV, w1, w2, c4, c6, c8, c9]; exact is_rfl))
    | (apply op_no; (case hw => simp [v1, v2, v3, v4, exV, w1, w2, c4, c6, c8, c9]))
    | refine op_nil ?_ | refine next_normal ?_ | refine go_seq ?_ | refine go_region ?_ | refine go_skip ?_ | refine go_block ?_ | refine inb_normal ?_
    | (apply go_yes; (case hc => simp [v1, v2, v3, v4, exV, w1, w2, c4, c6, c8, c9])) | (apply go_no; (case hc => simp [v1, v2, v3, v4, exV, w1, w2, c4, c6, c8, c9]))
    | refine go_exit ?_ | refine next_exit ?_ | refine inb_here ?_ | refine inb_past (by decide) ?_ | refine go_ret ?_ | refine next_ret ?_ | refine inb_ret ?_))
      (apply ends_ok; (case h1 => simp; exact is_rfl); (case h2 => simp; exact is_rfl))
      simp
    · (refine gives_iff ?_; refine go_func Try.f20 rfl rfl (by simp [Try.f20]) ?_; dsimp only [codeL, Try.f20, scL, sopsL, guardL, dstAt, loopKey])
      (repeat (first
    | (apply is_ok; (case hw => simp [v1, v2, v3, v4, exV, w1, w2, c4, c8, c9]); (case he => simp [v1, v2, v3, v4, exV, w1, w2, c4, c8, c9]; exact is_rfl))
    | (apply op_no; (case hw => simp [v1, v2, v3, v4, exV, w1, w2, c4, c8, c9]))
    | refine op_nil ?_ | refine next_normal ?_ | refine go_seq ?_ | refine go_region ?_ | refine go_skip ?_ | refine go_block ?_ | refine inb_normal ?_
    | (apply go_yes; (case hc => simp [v1, v2, v3, v4, exV, w1, w2, c4, c8, c9])) | (apply go_no; (case hc => simp [v1, v2, v3, v4, exV, w1, w2, c4, c8, c9]))
    | refine go_exit ?_ | refine next_exit ?_ | refine inb_here ?_ | refine inb_past (by decide) ?_ | refine go_ret ?_ | refine next_ret ?_ | refine inb_ret ?_))
      (apply ends_ok; (case h1 => simp; exact is_rfl); (case h2 => simp; exact is_rfl))
      simp
  have c5 : 0 < s.co.2 → ¬ 2 * (s.mem.length : Int) < (s.co.1 + s.co.2) * 64 := fun h1 h2 => c3 ⟨h1, by omega⟩
  have c9 : 0 < s.sw.2 → ¬ (s.S.length : Int) < s.sw.1 + s.sw.2 := fun h1 h2 => c7 ⟨h1, h2⟩
  have z1 := Core_eq s
  have z2 := Swapped_eq s hk
  by_cases c4 : 0 < s.co.2 <;> by_cases c8 : 0 < s.sw.2 <;>
  · (refine gives_iff ?_; refine go_func Try.f20 rfl rfl (by simp [Try.f20]) ?_; dsimp only [codeL, Try.f20, scL, sopsL, guardL, dstAt, loopKey])
    (repeat (first
    | (apply is_ok; (case hw => simp [v1, v2, v3, v4, exV, w1, w2, c4, c5, c8, c9]); (case he => simp [v1, v2, v3, v4, exV, w1, w2, c4, c5, c8, c9]; exact is_rfl))
    | (apply op_no; (case hw => simp [v1, v2, v3, v4, exV, w1, w2, c4, c5, c8, c9]))
    | refine op_nil ?_ | refine next_normal ?_ | refine go_seq ?_ | refine go_region ?_ | refine go_skip ?_ | refine go_block ?_ | refine inb_normal ?_
    | (apply go_yes; (case hc => simp [v1, v2, v3, v4, exV, w1, w2, c4, c5, c8, c9])) | (apply go_no; (case hc => simp [v1, v2, v3, v4, exV, w1, w2, c4, c5, c8, c9]))
    | refine go_exit ?_ | refine next_exit ?_ | refine inb_here ?_ | refine inb_past (by decide) ?_ | refine go_ret ?_ | refine next_ret ?_ | refine inb_ret ?_))
    refine go_count 8 (fun i => [(1, .ptr 0 1 0 0), (50, .agg (prsC s.ps)), (51, .int .i64 i)]) (fun i => [.box (.agg s.cells)]) (fun i => ∀ k (h : k < s.ps.length), k < i → hasP s.ps[k] → UsuP (s.ps[k].base, s.ps[k].blk)) (by simp) (fun j _ h => absurd h (Nat.not_lt_zero j)) fun i hi hI => ?_
    by_cases hlt : i < 8
    · have g1 : (i : Int) < 8 := by omega
      have g0 : i < s.ps.length := by omega
      have g2 : s.ps[i]? = some s.ps[i] := List.getElem?_eq_getElem g0
      have w3 : IntKind.i64.wrap ((i : Int) + 1) = (i : Int) + 1 := wrap_id (by omega) (by omega)
      have v5 := hasImage_eq s.ps[i]
      have v6 := swSmall_eq (s.ps[i].base, s.ps[i].blk)
      by_cases d1 : hasP s.ps[i]
      · rw [decide_eq_true d1] at v5
        by_cases d2 : UsuP (s.ps[i].base, s.ps[i].blk)
        · rw [decide_eq_true d2] at v6
          (repeat (first
    | (apply is_ok; (case hw => simp [g1, g2, hlt, v5, v6, w3]); (case he => simp [g1, g2, hlt, v5, v6, w3]; exact is_rfl))
    | (apply op_no; (case hw => simp [g1, g2, hlt, v5, v6, w3]))
    | refine op_nil ?_ | refine next_normal ?_ | refine go_seq ?_ | refine go_region ?_ | refine go_skip ?_ | refine go_block ?_ | refine inb_normal ?_
    | (apply go_yes; (case hc => simp [g1, g2, hlt, v5, v6, w3])) | (apply go_no; (case hc => simp [g1, g2, hlt, v5, v6, w3]))
    | refine go_exit ?_ | refine next_exit ?_ | refine inb_here ?_ | refine inb_past (by decide) ?_ | refine go_ret ?_ | refine next_ret ?_ | refine inb_ret ?_))
          exact ⟨hlt, by simp [w3], fun k h hk2 => by
            rcases Nat.lt_or_ge k i with h1 | h1
            · exact hI k h h1
            · have : k = i := by omega
              subst this
              exact fun _ => d2⟩
        · rw [decide_eq_false d2] at v6
          obtain rfl : B = false := by rw [← hB]; exact rightB_no fun h => d2 (h.2.2.2.2 _ (List.getElem_mem g0) d1)
          (repeat (first
    | (apply is_ok; (case hw => simp [g1, g2, hlt, v5, v6, w3]); (case he => simp [g1, g2, hlt, v5, v6, w3]; exact is_rfl))
    | (apply op_no; (case hw => simp [g1, g2, hlt, v5, v6, w3]))
    | refine op_nil ?_ | refine next_normal ?_ | refine go_seq ?_ | refine go_region ?_ | refine go_skip ?_ | refine go_block ?_ | refine inb_normal ?_
    | (apply go_yes; (case hc => simp [g1, g2, hlt, v5, v6, w3])) | (apply go_no; (case hc => simp [g1, g2, hlt, v5, v6, w3]))
    | refine go_exit ?_ | refine next_exit ?_ | refine inb_here ?_ | refine inb_past (by decide) ?_ | refine go_ret ?_ | refine next_ret ?_ | refine inb_ret ?_))
          (apply ends_ok; (case h1 => simp; exact is_rfl); (case h2 => simp; exact is_rfl))
          simp
      · rw [decide_eq_false d1] at v5
        (repeat (first
    | (apply is_ok; (case hw => simp [g1, g2, hlt, v5, v6, w3]); (case he => simp [g1, g2, hlt, v5, v6, w3]; exact is_rfl))
    | (apply op_no; (case hw => simp [g1, g2, hlt, v5, v6, w3]))
    | refine op_nil ?_ | refine next_normal ?_ | refine go_seq ?_ | refine go_region ?_ | refine go_skip ?_ | refine go_block ?_ | refine inb_normal ?_
    | (apply go_yes; (case hc => simp [g1, g2, hlt, v5, v6, w3])) | (apply go_no; (case hc => simp [g1, g2, hlt, v5, v6, w3]))
    | refine go_exit ?_ | refine next_exit ?_ | refine inb_here ?_ | refine inb_past (by decide) ?_ | refine go_ret ?_ | refine next_ret ?_ | refine inb_ret ?_))
        exact ⟨hlt, by simp [w3], fun k h hk2 => by
          rcases Nat.lt_or_ge k i with h1 | h1
          · exact hI k h h1
          · have : k = i := by omega
            subst this
            exact fun h => absurd h d1⟩
    · have : i = 8 := by omega
      subst this
      have hu : ∀ p ∈ s.ps, hasP p → UsuP (p.base, p.blk) := fun p hp => by
        obtain ⟨k, hk', rfl⟩ := List.mem_iff_getElem.1 hp
        exact hI k hk' (by omega)
      rw [rightB_yes ⟨c1, c2, c3, c7, hu⟩] at hB
      have l1 := coreL_len s.ps
      have l2 := swpL_len s.ps
      have v7 := apart_eq (coreL s.ps) (by omega) (coreL_up hu) s.co c1.big
      have v8 := apart_eq (swpL s.ps) (by omega) (swpL_up hu) s.sw c2.big
      generalize apB (swpL s.ps) s.sw = b2 at v8 hB
      cases b1 : apB (coreL s.ps) s.co <;>
      · rw [b1] at v7 hB
        subst hB
        (repeat (first
    | (apply is_ok; (case hw => simp [z1, z2, v7, v8, exV]); (case he => simp [z1, z2, v7, v8, exV]; exact is_rfl))
    | (apply op_no; (case hw => simp [z1, z2, v7, v8, exV]))
    | refine op_nil ?_ | refine next_normal ?_ | refine go_seq ?_ | refine go_region ?_ | refine go_skip ?_ | refine go_block ?_ | refine inb_normal ?_
    | (apply go_yes; (case hc => simp [z1, z2, v7, v8, exV])) | (apply go_no; (case hc => simp [z1, z2, v7, v8, exV]))
    | refine go_exit ?_ | refine next_exit ?_ | refine inb_here ?_ | refine inb_past (by decide) ?_ | refine go_ret ?_ | refine next_ret ?_ | refine inb_ret ?_))
        (apply ends_ok; (case h1 => simp; exact is_rfl); (case h2 => simp; exact is_rfl))
        simp
set_option maxHeartbeats 4000000 in
theorem swRightR_eq (s : Sys) (hm : s.mem.length ≤ 1000000) (hS : s.S.length ≤ 1000000) (hk : ∀ p ∈ s.ps, -9223372036854775808 ≤ p.blk ∧ p.blk ≤ 9223372036854775807) : bodyW DC 21 [.agg s.cells] [] = some (.bool (rightB s), []) := by
  have hps := s.hps
  have v1 := Usual_eq s.co
  have v2 := Usual_eq s.sw
  generalize hB : rightB s = B
  by_cases c1 : UsuP s.co
  case neg =>
    obtain rfl : B = false := by rw [← hB]; exact rightB_no fun h => c1 h.1
    rw [decide_eq_false c1] at v1
    by_cases c2 : UsuP s.sw
    · rw [decide_eq_true c2] at v2
      (refine gives_iff ?_; refine go_func Try.f21 rfl rfl (by simp [Try.f21]) ?_; dsimp only [codeL, Try.f21, scL, sopsL, guardL, dstAt, loopKey])
      (repeat (first
    | (apply is_ok; (case hw => simp [v1, v2, exV]); (case he => simp [v1, v2, exV]; exact is_rfl))
    | (apply op_no; (case hw => simp [v1, v2, exV]))
    | refine op_nil ?_ | refine next_normal ?_ | refine go_seq ?_ | refine go_region ?_ | refine go_skip ?_ | refine go_block ?_ | refine inb_normal ?_
    | (apply go_yes; (case hc => simp [v1, v2, exV])) | (apply go_no; (case hc => simp [v1, v2, exV]))
    | refine go_exit ?_ | refine next_exit ?_ | refine inb_here ?_ | refine inb_past (by decide) ?_ | refine go_ret ?_ | refine next_ret ?_ | refine inb_ret ?_))
      (apply ends_ok; (case h1 => simp; exact is_rfl); (case h2 => simp; exact is_rfl))
      simp
    · rw [decide_eq_false c2] at v2
      (refine gives_iff ?_; refine go_func Try.f21 rfl rfl (by simp [Try.f21]) ?_; dsimp only [codeL, Try.f21, scL, sopsL, guardL, dstAt, loopKey])
      (repeat (first
    | (apply is_ok; (case hw => simp [v1, v2, exV]); (case he => simp [v1, v2, exV]; exact is_rfl))
    | (apply op_no; (case hw => simp [v1, v2, exV]))
    | refine op_nil ?_ | refine next_normal ?_ | refine go_seq ?_ | refine go_region ?_ | refine go_skip ?_ | refine go_block ?_ | refine inb_normal ?_
    | (apply go_yes; (case hc => simp [v1, v2, exV])) | (apply go_no; (case hc => simp [v1, v2, exV]))
    | refine go_exit ?_ | refine next_exit ?_ | refine inb_here ?_ | refine inb_past (by decide) ?_ | refine go_ret ?_ | refine next_ret ?_ | refine inb_ret ?_))
      (apply ends_ok; (case h1 => simp; exact is_rfl); (case h2 => simp; exact is_rfl))
      simp
  rw [decide_eq_true c1] at v1
  by_cases c2 : UsuP s.sw
  case neg =>
    obtain rfl : B = false := by rw [← hB]; exact rightB_no fun h => c2 h.2.1
    rw [decide_eq_false c2] at v2
    (refine gives_iff ?_; refine go_func Try.f21 rfl rfl (by simp [Try.f21]) ?_; dsimp only [codeL, Try.f21, scL, sopsL, guardL, dstAt, loopKey])
    (repeat (first
    | (apply is_ok; (case hw => simp [v1, v2, exV]); (case he => simp [v1, v2, exV]; exact is_rfl))
    | (apply op_no; (case hw => simp [v1, v2, exV]))
    | refine op_nil ?_ | refine next_normal ?_ | refine go_seq ?_ | refine go_region ?_ | refine go_skip ?_ | refine go_block ?_ | refine inb_normal ?_
    | (apply go_yes; (case hc => simp [v1, v2, exV])) | (apply go_no; (case hc => simp [v1, v2, exV]))
    | refine go_exit ?_ | refine next_exit ?_ | refine inb_here ?_ | refine inb_past (by decide) ?_ | refine go_ret ?_ | refine next_ret ?_ | refine inb_ret ?_))
    (apply ends_ok; (case h1 => simp; exact is_rfl); (case h2 => simp; exact is_rfl))
    simp
  rw [decide_eq_true c2] at v2
  have u1 := c1.1
  have u2 := c1.2.1
  have u3 := c1.2.2.1
  have u4 := c1.2.2.2
  have u5 := c2.1
  have u6 := c2.2.1
  have u7 := c2.2.2.1
  have u8 := c2.2.2.2
  have v3 : IntKind.i64.wrap (s.co.1 + s.co.2) = s.co.1 + s.co.2 := wrap_id (by omega) (by omega)
  have v4 : IntKind.i64.wrap (s.sw.1 + s.sw.2) = s.sw.1 + s.sw.2 := wrap_id (by omega) (by omega)
  have w1 : IntKind.i64.wrap ((s.co.1 + s.co.2) * 32) = (s.co.1 + s.co.2) * 32 := wrap_id (by omega) (by omega)
  by_cases c3 : 0 < s.co.2 ∧ (s.mem.length : Int) < (s.co.1 + s.co.2) * 32
  · obtain rfl : B = false := by rw [← hB]; exact rightB_no fun h => h.2.2.1 c3
    obtain ⟨c4, c5⟩ := c3
    have c6 : (s.mem.length : Int) < (s.co.1 + s.co.2) * 32 := by omega
    (refine gives_iff ?_; refine go_func Try.f21 rfl rfl (by simp [Try.f21]) ?_; dsimp only [codeL, Try.f21, scL, sopsL, guardL, dstAt, loopKey])
    (repeat (first
    | (apply is_ok; (case hw => simp [v1, v2, v3, v4, exV, w1, c4, c6]); (case he => simp [v1, v2, v3, v4, exV, w1, c4, c6]; exact is_rfl))
    | (apply op_no; (case hw => simp [v1, v2, v3, v4, exV, w1, c4, c6]))
    | refine op_nil ?_ | refine next_normal ?_ | refine go_seq ?_ | refine go_region ?_ | refine go_skip ?_ | refine go_block ?_ | refine inb_normal ?_
    | (apply go_yes; (case hc => simp [v1, v2, v3, v4, exV, w1, c4, c6])) | (apply go_no; (case hc => simp [v1, v2, v3, v4, exV, w1, c4, c6]))
    | refine go_exit ?_ | refine next_exit ?_ | refine inb_here ?_ | refine inb_past (by decide) ?_ | refine go_ret ?_ | refine next_ret ?_ | refine inb_ret ?_))
    (apply ends_ok; (case h1 => simp; exact is_rfl); (case h2 => simp; exact is_rfl))
    simp
  by_cases c7 : 0 < s.sw.2 ∧ (s.S.length : Int) < s.sw.1 + s.sw.2
  · obtain rfl : B = false := by rw [← hB]; exact rightB_no fun h => h.2.2.2.1 c7
    obtain ⟨c8, c9⟩ := c7
    by_cases c4 : 0 < s.co.2
    · have c6 : ¬ (s.mem.length : Int) < (s.co.1 + s.co.2) * 32 := by have := fun h => c3 ⟨c4, h⟩; omega
      (refine gives_iff ?_; refine go_func Try.f21 rfl rfl (by simp [Try.f21]) ?_; dsimp only [codeL, Try.f21, scL, sopsL, guardL, dstAt, loopKey])
      (repeat (first
    | (apply is_ok; (case hw => simp [v1, v2, v3, v4, exV, w1, c4, c6, c8, c9]); (case he => simp [v1, v2, v3, v4, exV, w1, c4, c6, c8, c9]; exact is_rfl))
    | (apply op_no; (case hw => simp [v1, v2, v3, v4, exV, w1, c4, c6, c8, c9]))
    | refine op_nil ?_ | refine next_normal ?_ | refine go_seq ?_ | refine go_region ?_ | refine go_skip ?_ | refine go_block ?_ | refine inb_normal ?_
    | (apply go_yes; (case hc => simp [v1, v2, v3, v4, exV, w1, c4, c6, c8, c9])) | (apply go_no; (case hc => simp [v1, v2, v3, v4, exV, w1, c4, c6, c8, c9]))
    | refine go_exit ?_ | refine next_exit ?_ | refine inb_here ?_ | refine inb_past (by decide) ?_ | refine go_ret ?_ | refine next_ret ?_ | refine inb_ret ?_))
      (apply ends_ok; (case h1 => simp; exact is_rfl); (case h2 => simp; exact is_rfl))
      simp
    · (refine gives_iff ?_; refine go_func Try.f21 rfl rfl (by simp [Try.f21]) ?_; dsimp only [codeL, Try.f21, scL, sopsL, guardL, dstAt, loopKey])
      (repeat (first
    | (apply is_ok; (case hw => simp [v1, v2, v3, v4, exV, w1, c4, c8, c9]); (case he => simp [v1, v2, v3, v4, exV, w1, c4, c8, c9]; exact is_rfl))
    | (apply op_no; (case hw => simp [v1, v2, v3, v4, exV, w1, c4, c8, c9]))
    | refine op_nil ?_ | refine next_normal ?_ | refine go_seq ?_ | refine go_region ?_ | refine go_skip ?_ | refine go_block ?_ | refine inb_normal ?_
    | (apply go_yes; (case hc => simp [v1, v2, v3, v4, exV, w1, c4, c8, c9])) | (apply go_no; (case hc => simp [v1, v2, v3, v4, exV, w1, c4, c8, c9]))
    | refine go_exit ?_ | refine next_exit ?_ | refine inb_here ?_ | refine inb_past (by decide) ?_ | refine go_ret ?_ | refine next_ret ?_ | refine inb_ret ?_))
      (apply ends_ok; (case h1 => simp; exact is_rfl); (case h2 => simp; exact is_rfl))
      simp
  have c5 : 0 < s.co.2 → ¬ (s.mem.length : Int) < (s.co.1 + s.co.2) * 32 := fun h1 h2 => c3 ⟨h1, by omega⟩
  have c9 : 0 < s.sw.2 → ¬ (s.S.length : Int) < s.sw.1 + s.sw.2 := fun h1 h2 => c7 ⟨h1, h2⟩
  have z1 := CoreR_eq s
  have z2 := SwappedR_eq s hk
  by_cases c4 : 0 < s.co.2 <;> by_cases c8 : 0 < s.sw.2 <;>
  · (refine gives_iff ?_; refine go_func Try.f21 rfl rfl (by simp [Try.f21]) ?_; dsimp only [codeL, Try.f21, scL, sopsL, guardL, dstAt, loopKey])
    (repeat (first
    | (apply is_ok; (case hw => simp [v1, v2, v3, v4, exV, w1, c4, c5, c8, c9]); (case he => simp [v1, v2, v3, v4, exV, w1, c4, c5, c8, c9]; exact is_rfl))
    | (apply op_no; (case hw => simp [v1, v2, v3, v4, exV, w1, c4, c5, c8, c9]))
    | refine op_nil ?_ | refine next_normal ?_ | refine go_seq ?_ | refine go_region ?_ | refine go_skip ?_ | refine go_block ?_ | refine inb_normal ?_
    | (apply go_yes; (case hc => simp [v1, v2, v3, v4, exV, w1, c4, c5, c8, c9])) | (apply go_no; (case hc => simp [v1, v2, v3, v4, exV, w1, c4, c5, c8, c9]))
    | refine go_exit ?_ | refine next_exit ?_ | refine inb_here ?_ | refine inb_past (by decide) ?_ | refine go_ret ?_ | refine next_ret ?_ | refine inb_ret ?_))
    refine go_count 8 (fun i => [(1, .ptr 0 1 0 0), (3, .int .i64 i)]) (fun i => [.box (.agg s.cells)]) (fun i => ∀ k (h : k < s.ps.length), k < i → hasP s.ps[k] → UsuP (s.ps[k].base, s.ps[k].blk)) (by simp) (fun j _ h => absurd h (Nat.not_lt_zero j)) fun i hi hI => ?_
    by_cases hlt : i < 8
    · have g1 : (i : Int) < 8 := by omega
      have g0 : i < s.ps.length := by omega
      have g2 : s.ps[i]? = some s.ps[i] := List.getElem?_eq_getElem g0
      have w3 : IntKind.i64.wrap ((i : Int) + 1) = (i : Int) + 1 := wrap_id (by omega) (by omega)
      have v5 := hasR_eq s.ps[i]
      have v6 := Usual_eq (s.ps[i].base, s.ps[i].blk)
      by_cases d1 : hasP s.ps[i]
      · rw [decide_eq_true d1] at v5
        by_cases d2 : UsuP (s.ps[i].base, s.ps[i].blk)
        · rw [decide_eq_true d2] at v6
          (repeat (first
    | (apply is_ok; (case hw => simp [g1, g2, hlt, v5, v6, w3]); (case he => simp [g1, g2, hlt, v5, v6, w3]; exact is_rfl))
    | (apply op_no; (case hw => simp [g1, g2, hlt, v5, v6, w3]))
    | refine op_nil ?_ | refine next_normal ?_ | refine go_seq ?_ | refine go_region ?_ | refine go_skip ?_ | refine go_block ?_ | refine inb_normal ?_
    | (apply go_yes; (case hc => simp [g1, g2, hlt, v5, v6, w3])) | (apply go_no; (case hc => simp [g1, g2, hlt, v5, v6, w3]))
    | refine go_exit ?_ | refine next_exit ?_ | refine inb_here ?_ | refine inb_past (by decide) ?_ | refine go_ret ?_ | refine next_ret ?_ | refine inb_ret ?_))
          exact ⟨hlt, by simp [w3], fun k h hk2 => by
            rcases Nat.lt_or_ge k i with h1 | h1
            · exact hI k h h1
            · have : k = i := by omega
              subst this
              exact fun _ => d2⟩
        · rw [decide_eq_false d2] at v6
          obtain rfl : B = false := by rw [← hB]; exact rightB_no fun h => d2 (h.2.2.2.2 _ (List.getElem_mem g0) d1)
          (repeat (first
    | (apply is_ok; (case hw => simp [g1, g2, hlt, v5, v6, w3]); (case he => simp [g1, g2, hlt, v5, v6, w3]; exact is_rfl))
    | (apply op_no; (case hw => simp [g1, g2, hlt, v5, v6, w3]))
    | refine op_nil ?_ | refine next_normal ?_ | refine go_seq ?_ | refine go_region ?_ | refine go_skip ?_ | refine go_block ?_ | refine inb_normal ?_
    | (apply go_yes; (case hc => simp [g1, g2, hlt, v5, v6, w3])) | (apply go_no; (case hc => simp [g1, g2, hlt, v5, v6, w3]))
    | refine go_exit ?_ | refine next_exit ?_ | refine inb_here ?_ | refine inb_past (by decide) ?_ | refine go_ret ?_ | refine next_ret ?_ | refine inb_ret ?_))
          (apply ends_ok; (case h1 => simp; exact is_rfl); (case h2 => simp; exact is_rfl))
          simp
      · rw [decide_eq_false d1] at v5
        (repeat (first
    | (apply is_ok; (case hw => simp [g1, g2, hlt, v5, v6, w3]); (case he => simp [g1, g2, hlt, v5, v6, w3]; exact is_rfl))
    | (apply op_no; (case hw => simp [g1, g2, hlt, v5, v6, w3]))
    | refine op_nil ?_ | refine next_normal ?_ | refine go_seq ?_ | refine go_region ?_ | refine go_skip ?_ | refine go_block ?_ | refine inb_normal ?_
    | (apply go_yes; (case hc => simp [g1, g2, hlt, v5, v6, w3])) | (apply go_no; (case hc => simp [g1, g2, hlt, v5, v6, w3]))
    | refine go_exit ?_ | refine next_exit ?_ | refine inb_here ?_ | refine inb_past (by decide) ?_ | refine go_ret ?_ | refine next_ret ?_ | refine inb_ret ?_))
        exact ⟨hlt, by simp [w3], fun k h hk2 => by
          rcases Nat.lt_or_ge k i with h1 | h1
          · exact hI k h h1
          · have : k = i := by omega
            subst this
            exact fun h => absurd h d1⟩
    · have : i = 8 := by omega
      subst this
      have hu : ∀ p ∈ s.ps, hasP p → UsuP (p.base, p.blk) := fun p hp => by
        obtain ⟨k, hk', rfl⟩ := List.mem_iff_getElem.1 hp
        exact hI k hk' (by omega)
      rw [rightB_yes ⟨c1, c2, c3, c7, hu⟩] at hB
      have l1 := coreL_len s.ps
      have l2 := swpL_len s.ps
      have v7 := placed_eq (coreL s.ps) (by omega) (coreL_up hu) s.co c1.big
      have v8 := placed_eq (swpL s.ps) (by omega) (swpL_up hu) s.sw c2.big
      generalize apB (swpL s.ps) s.sw = b2 at v8 hB
      cases b1 : apB (coreL s.ps) s.co <;>
      · rw [b1] at v7 hB
        subst hB
        (repeat (first
    | (apply is_ok; (case hw => simp [z1, z2, v7, v8, exV]); (case he => simp [z1, z2, v7, v8, exV]; exact is_rfl))
    | (apply op_no; (case hw => simp [z1, z2, v7, v8, exV]))
    | refine op_nil ?_ | refine next_normal ?_ | refine go_seq ?_ | refine go_region ?_ | refine go_skip ?_ | refine go_block ?_ | refine inb_normal ?_
    | (apply go_yes; (case hc => simp [z1, z2, v7, v8, exV])) | (apply go_no; (case hc => simp [z1, z2, v7, v8, exV]))
    | refine go_exit ?_ | refine next_exit ?_ | refine inb_here ?_ | refine inb_past (by decide) ?_ | refine go_ret ?_ | refine next_ret ?_ | refine inb_ret ?_))
        (apply ends_ok; (case h1 => simp; exact is_rfl); (case h2 => simp; exact is_rfl))
        simp
end Go.Abs
