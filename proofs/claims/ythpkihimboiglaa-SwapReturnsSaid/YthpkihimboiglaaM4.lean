/- Proved here: what functions of the program compute, over the evaluator. No condition but those that each theorem states. -/
import Derived.Test.YthpkihimboiglaaM3
import Derived.Test.YthpkihimboiglaaM2
namespace Go.Abs
open Go.Proofs
set_option maxRecDepth 100000
set_option linter.unusedSimpArgs false
set_option linter.unusedVariables false

/-- Are the extents of a system right? -/
def rightP (s : Sys) : Prop := UsuP s.co ∧ UsuP s.sw ∧ ¬ (0 < s.co.2 ∧ (s.mem.length : Int) < (s.co.1 + s.co.2) * 32) ∧ ¬ (0 < s.sw.2 ∧ (s.S.length : Int) < s.sw.1 + s.sw.2) ∧ (∀ p ∈ s.ps, hasP p → UsuP (p.base, p.blk))
noncomputable def rightB (s : Sys) : Bool := @decide (rightP s) (Classical.propDecidable _) && apB (coreL s.ps) s.co && apB (swpL s.ps) s.sw
theorem rightB_no {s : Sys} (h : ¬ rightP s) : rightB s = false := by unfold rightB; simp [h]
theorem rightB_yes {s : Sys} (h : rightP s) : rightB s = (apB (coreL s.ps) s.co && apB (swpL s.ps) s.sw) := by unfold rightB; simp [h]

theorem coreL_up {ps : List Pr} (h : ∀ p ∈ ps, hasP p → UsuP (p.base, p.blk)) : ∀ y ∈ coreL ps, UpP y := by
  intro y hy
  obtain ⟨p, hp, rfl⟩ := List.mem_map.1 hy
  obtain ⟨h1, h2⟩ := List.mem_filter.1 hp
  have h3 : hasP p := by
    rw [Bool.and_eq_true] at h2
    exact of_decide_eq_true h2.1
  have h4 := h p h1 h3
  have h5 := h3.2
  exact ⟨h4.1, by have := h4.2.1; dsimp only at this ⊢; omega, by dsimp only; omega, by have := h4.2.2.2; dsimp only at this ⊢; omega⟩
theorem secN_bound {n : Int} (h1 : 1 ≤ n) (h2 : n ≤ 1048576) : 0 < secN n ∧ secN n ≤ 1048576 ∧ secN n = n / 2 + n % 2 := by
  unfold secN
  rw [if_neg (by omega)]
  omega
theorem swpL_up {ps : List Pr} (h : ∀ p ∈ ps, hasP p → UsuP (p.base, p.blk)) : ∀ y ∈ swpL ps, UpP y := by
  intro y hy
  obtain ⟨p, hp, rfl⟩ := List.mem_map.1 hy
  obtain ⟨h1, h2⟩ := List.mem_filter.1 hp
  have h3 : hasP p := by
    rw [Bool.and_eq_true] at h2
    exact of_decide_eq_true h2.1
  have h4 := h p h1 h3
  have h5 := h3.2
  have h6 := secN_bound h5 h4.2.2.2
  exact ⟨h4.1, by have := h4.2.1; dsimp only at this ⊢; omega, h6.1, by dsimp only; omega⟩
theorem UsuP.big {a : Ex} (h : UsuP a) : BigP a := ⟨h.1, by have := h.2.1; omega, h.2.2.1, by have := h.2.2.2; omega⟩

set_option maxHeartbeats 4000000 in
theorem swRight_eq (s : Sys) (hm : s.mem.length ≤ 1000000) (hS : s.S.length ≤ 1000000) (hk : ∀ p ∈ s.ps, -9223372036854775808 ≤ p.blk ∧ p.blk ≤ 9223372036854775807) : bodyW DC 20 [.agg s.cells] [] = some (.bool (rightB s), []) := by
  have hps := s.hps
  have v1 := swSmall_eq s.co
  have v2 := swSmall_eq s.sw
  generalize hB : rightB s = B
  by_cases c1 : UsuP s.co
  case neg =>
    obtain rfl : B = false := by rw [← hB]; exact rightB_no fun h => c1 h.1
    rw [decide_eq_false c1] at v1
    by_cases c2 : UsuP s.sw
    · rw [decide_eq_true c2] at v2
      (refine gives_iff ?_; refine go_func Try.f20 rfl rfl (by simp [Try.f20]) ?_; dsimp only [codeL, Try.f20, scL, sopsL, guardL, dstAt, loopKey])
      (repeat (first
    | (apply is_ok; (case hw => simp [v1, v2, exV]); (case he => simp [v1, v2, exV]; exact is_rfl))
    | (apply op_no; (case hw => simp [v1, v2, exV]))
    | refine op_nil ?_ | refine next_normal ?_ | refine go_seq ?_ | refine go_region ?_ | refine go_skip ?_ | refine go_block ?_ | refine inb_normal ?_
    | (apply go_yes; (case hc => simp [v1, v2, exV])) | (apply go_no; (case hc => simp [v1, v2, exV]))
    | refine go_exit ?_ | refine next_exit ?_ | refine inb_here ?_ | refine inb_past (by decide) ?_ | refine go_ret ?_ | refine next_ret ?_ | refine inb_ret ?_))
      (apply ends_ok; (case h1 => simp; exact is_rfl); (case h2 => simp; exact is_rfl))
      simp
    · rw [decide_eq_false c2] at v2
      (refine gives_iff ?_; refine go_func Try.f20 rfl rfl (by simp [Try.f20]) ?_; dsimp only [codeL, Try.f20, scL, sopsL, guardL, dstAt, loopKey])
      (repeat (first
    | (apply is_ok; (case hw => simp [v1, v2, exV]); (case he => simp [v1, v2, exV]; exact is_rfl))
    | (apply op_no; (case hw => simp [v1, v2, exV]))
    | refine op_nil ?_ | refine next_normal ?_ | refine go_seq ?_ | refine go_region ?_ | refine go_skip ?_ | refine go_block ?_ | refine inb_normal ?_
    | (apply go_yes; (case hc => simp [v1, v2, exV])) | (apply go_no; (case hc => simp [v1, v2, exV]))
    | refine go_exit ?_ | refine next_exit ?_ | refine inb_here ?_ | refine inb_past (by decide) ?_ | refine go_ret ?_ | refine next_ret ?_ | refine inb_ret ?_))
      (apply ends_ok; (case h1 => simp; exact is_rfl); (case h2 => simp; exact is_rfl))
      simp
  rw [decide_eq_true c1] at v1
  by_cases c2 : UsuP s.sw
  case neg =>
    obtain rfl : B = false := by rw [← hB]; exact rightB_no fun h => c2 h.2.1
    rw [decide_eq_false c2] at v2
    (refine gives_iff ?_; refine go_func Try.f20 rfl rfl (by simp [Try.f20]) ?_; dsimp only [codeL, Try.f20, scL, sopsL, guardL, dstAt, loopKey])
    (repeat (first
    | (apply is_ok; (case hw => simp [v1, v2, exV]); (case he => simp [v1, v2, exV]; exact is_rfl))
    | (apply op_no; (case hw => simp [v1, v2, exV]))
    | refine op_nil ?_ | refine next_normal ?_ | refine go_seq ?_ | refine go_region ?_ | refine go_skip ?_ | refine go_block ?_ | refine inb_normal ?_
    | (apply go_yes; (case hc => simp [v1, v2, exV])) | (apply go_no; (case hc => simp [v1, v2, exV]))
    | refine go_exit ?_ | refine next_exit ?_ | refine inb_here ?_ | refine inb_past (by decide) ?_ | refine go_ret ?_ | refine next_ret ?_ | refine inb_ret ?_))
    (apply ends_ok; (case h1 => simp; exact is_rfl); (case h2 => simp; exact is_rfl))
    simp
  rw [decide_eq_true c2] at v2
  have u1 := c1.1
  have u2 := c1.2.1
  have u3 := c1.2.2.1
  have u4 := c1.2.2.2
  have u5 := c2.1
  have u6 := c2.2.1
  have u7 := c2.2.2.1
  have u8 := c2.2.2.2
  have v3 := end_eq s.co c1.big
  have v4 := end_eq s.sw c2.big
  have w1 : IntKind.i64.wrap ((s.co.1 + s.co.2) * 64) = (s.co.1 + s.co.2) * 64 := wrap_id (by omega) (by omega)
  have w2 : IntKind.i64.wrap (2 * (s.mem.length : Int)) = 2 * (s.mem.length : Int) := wrap_id (by omega) (by omega)
  by_cases c3 : 0 < s.co.2 ∧ (s.mem.length : Int) < (s.co.1 + s.co.2) * 32
  · obtain rfl : B = false := by rw [← hB]; exact rightB_no fun h => h.2.2.1 c3
    obtain ⟨c4, c5⟩ := c3
    have c6 : 2 * (s.mem.length : Int) < (s.co.1 + s.co.2) * 64 := by omega
    (refine gives_iff ?_; refine go_func Try.f20 rfl rfl (by simp [Try.f20]) ?_; dsimp only [codeL, Try.f20, scL, sopsL, guardL, dstAt, loopKey])
    (repeat (first
    | (apply is_ok; (case hw => simp [v1, v2, v3, v4, exV, w1, w2, c4, c6]); (case he => simp [v1, v2, v3, v4, exV, w1, w2, c4, c6]; exact is_rfl))
    | (apply op_no; (case hw => simp [v1, v2, v3, v4, exV, w1, w2, c4, c6]))
    | refine op_nil ?_ | refine next_normal ?_ | refine go_seq ?_ | refine go_region ?_ | refine go_skip ?_ | refine go_block ?_ | refine inb_normal ?_
    | (apply go_yes; (case hc => simp [v1, v2, v3, v4, exV, w1, w2, c4, c6])) | (apply go_no; (case hc => simp [v1, v2, v3, v4, exV, w1, w2, c4, c6]))
    | refine go_exit ?_ | refine next_exit ?_ | refine inb_here ?_ | refine inb_past (by decide) ?_ | refine go_ret ?_ | refine next_ret ?_ | refine inb_ret ?_))
    (apply ends_ok; (case h1 => simp; exact is_rfl); (case h2 => simp; exact is_rfl))
    simp
  by_cases c7 : 0 < s.sw.2 ∧ (s.S.length : Int) < s.sw.1 + s.sw.2
  · obtain rfl : B = false := by rw [← hB]; exact rightB_no fun h => h.2.2.2.1 c7
    obtain ⟨c8, c9⟩ := c7
    by_cases c4 : 0 < s.co.2
    · have c6 : ¬ 2 * (s.mem.length : Int) < (s.co.1 + s.co.2) * 64 := by have := fun h => c3 ⟨c4, h⟩; omega
      (refine gives_iff ?_; refine go_func Try.f20 rfl rfl (by simp [Try.f20]) ?_; dsimp only [codeL, Try.f20, scL, sopsL, guardL, dstAt, loopKey])
      (repeat (first
    | (apply is_ok; (case hw => simp [v1, v2, v3, v4, exV, w1, w2, c4, c6, c8, c9]); (case he => simp [v1, v2, v3, v4, exV, w1, w2, c4, c6, c8, c9]; exact is_rfl))
    | (apply op_no; (case hw => simp [v1, v2, v3, v4, exV, w1, w2, c4, c6, c8, c9]))
    | refine op_nil ?_ | refine next_normal ?_ | refine go_seq ?_ | refine go_region ?_ | refine go_skip ?_ | refine go_block ?_ | refine inb_normal ?_
    | (apply go_yes; (case hc => simp [v1, v2, v3, v4, exV, w1, w2, c4, c6, c8, c9])) | (apply go_no; (case hc => simp [v1, v2, v3, v4, exV, w1, w2, c4, c6, c8, c9]))
    | refine go_exit ?_ | refine next_exit ?_ | refine inb_here ?_ | refine inb_past (by decide) ?_ | refine go_ret ?_ | refine next_ret ?_ | refine inb_ret ?_))
      (apply ends_ok; (case h1 => simp; exact is_rfl); (case h2 => simp; exact is_rfl))
      simp
    · (refine gives_iff ?_; refine go_func Try.f20 rfl rfl (by simp [Try.f20]) ?_; dsimp only [codeL, Try.f20, scL, sopsL, guardL, dstAt, loopKey])
      (repeat (first
    | (apply is_ok; (case hw => simp [v1, v2, v3, v4, exV, w1, w2, c4, c8, c9]); (case he => simp [v1, v2, v3, v4, exV, w1, w2, c4, c8, c9]; exact is_rfl))
    | (apply op_no; (case hw => simp [v1, v2, v3, v4, exV, w1, w2, c4, c8, c9]))
    | refine op_nil ?_ | refine next_normal ?_ | refine go_seq ?_ | refine go_region ?_ | refine go_skip ?_ | refine go_block ?_ | refine inb_normal ?_
    | (apply go_yes; (case hc => simp [v1, v2, v3, v4, exV, w1, w2, c4, c8, c9])) | (apply go_no; (case hc => simp [v1, v2, v3, v4, exV, w1, w2, c4, c8, c9]))
    | refine go_exit ?_ | refine next_exit ?_ | refine inb_here ?_ | refine inb_past (by decide) ?_ | refine go_ret ?_ | refine next_ret ?_ | refine inb_ret ?_))
      (apply ends_ok; (case h1 => simp; exact is_rfl); (case h2 => simp; exact is_rfl))
      simp
  have c5 : 0 < s.co.2 → ¬ 2 * (s.mem.length : Int) < (s.co.1 + s.co.2) * 64 := fun h1 h2 => c3 ⟨h1, by omega⟩
  have c9 : 0 < s.sw.2 → ¬ (s.S.length : Int) < s.sw.1 + s.sw.2 := fun h1 h2 => c7 ⟨h1, h2⟩
  have z1 := Core_eq s
  have z2 := Swapped_eq s hk
  by_cases c4 : 0 < s.co.2 <;> by_cases c8 : 0 < s.sw.2 <;>
  · (refine gives_iff ?_; refine go_func Try.f20 rfl rfl (by simp [Try.f20]) ?_; dsimp only [codeL, Try.f20, scL, sopsL, guardL, dstAt, loopKey])
    (repeat (first
    | (apply is_ok; (case hw => simp [v1, v2, v3, v4, exV, w1, w2, c4, c5, c8, c9]); (case he => simp [v1, v2, v3, v4, exV, w1, w2, c4, c5, c8, c9]; exact is_rfl))
    | (apply op_no; (case hw => simp [v1, v2, v3, v4, exV, w1, w2, c4, c5, c8, c9]))
    | refine op_nil ?_ | refine next_normal ?_ | refine go_seq ?_ | refine go_region ?_ | refine go_skip ?_ | refine go_block ?_ | refine inb_normal ?_
    | (apply go_yes; (case hc => simp [v1, v2, v3, v4, exV, w1, w2, c4, c5, c8, c9])) | (apply go_no; (case hc => simp [v1, v2, v3, v4, exV, w1, w2, c4, c5, c8, c9]))
    | refine go_exit ?_ | refine next_exit ?_ | refine inb_here ?_ | refine inb_past (by decide) ?_ | refine go_ret ?_ | refine next_ret ?_ | refine inb_ret ?_))
    refine go_count 8 (fun i => [(1, .ptr 0 1 0 0), (50, .agg (prsC s.ps)), (51, .int .i64 i)]) (fun i => [.box (.agg s.cells)]) (fun i => ∀ k (h : k < s.ps.length), k < i → hasP s.ps[k] → UsuP (s.ps[k].base, s.ps[k].blk)) (by simp) (fun j _ h => absurd h (Nat.not_lt_zero j)) fun i hi hI => ?_
    by_cases hlt : i < 8
    · have g1 : (i : Int) < 8 := by omega
      have g0 : i < s.ps.length := by omega
      have g2 : s.ps[i]? = some s.ps[i] := List.getElem?_eq_getElem g0
      have w3 : IntKind.i64.wrap ((i : Int) + 1) = (i : Int) + 1 := wrap_id (by omega) (by omega)
      have v5 := hasImage_eq s.ps[i]
      have v6 := swSmall_eq (s.ps[i].base, s.ps[i].blk)
      by_cases d1 : hasP s.ps[i]
      · rw [decide_eq_true d1] at v5
        by_cases d2 : UsuP (s.ps[i].base, s.ps[i].blk)
        · rw [decide_eq_true d2] at v6
          (repeat (first
    | (apply is_ok; (case hw => simp [g1, g2, hlt, v5, v6, w3]); (case he => simp [g1, g2, hlt, v5, v6, w3]; exact is_rfl))
    | (apply op_no; (case hw => simp [g1, g2, hlt, v5, v6, w3]))
    | refine op_nil ?_ | refine next_normal ?_ | refine go_seq ?_ | refine go_region ?_ | refine go_skip ?_ | refine go_block ?_ | refine inb_normal ?_
    | (apply go_yes; (case hc => simp [g1, g2, hlt, v5, v6, w3])) | (apply go_no; (case hc => simp [g1, g2, hlt, v5, v6, w3]))
    | refine go_exit ?_ | refine next_exit ?_ | refine inb_here ?_ | refine inb_past (by decide) ?_ | refine go_ret ?_ | refine next_ret ?_ | refine inb_ret ?_))
          exact ⟨hlt, by simp [w3], fun k h hk2 => by
            rcases Nat.lt_or_ge k i with h1 | h1
            · exact hI k h h1
            · have : k = i := by omega
              subst this
              exact fun _ => d2⟩
        · rw [decide_eq_false d2] at v6
          obtain rfl : B = false := by rw [← hB]; exact rightB_no fun h => d2 (h.2.2.2.2 _ (List.getElem_mem g0) d1)
          (repeat (first
    | (apply is_ok; (case hw => simp [g1, g2, hlt, v5, v6, w3]); (case he => simp [g1, g2, hlt, v5, v6, w3]; exact is_rfl))
    | (apply op_no; (case hw => simp [g1, g2, hlt, v5, v6, w3]))
    | refine op_nil ?_ | refine next_normal ?_ | refine go_seq ?_ | refine go_region ?_ | refine go_skip ?_ | refine go_block ?_ | refine inb_normal ?_
    | (apply go_yes; (case hc => simp [g1, g2, hlt, v5, v6, w3])) | (apply go_no; (case hc => simp [g1, g2, hlt, v5, v6, w3]))
    | refine go_exit ?_ | refine next_exit ?_ | refine inb_here ?_ | refine inb_past (by decide) ?_ | refine go_ret ?_ | refine next_ret ?_ | refine inb_ret ?_))
          (apply ends_ok; (case h1 => simp; exact is_rfl); (case h2 => simp; exact is_rfl))
          simp
      · rw [decide_eq_false d1] at v5
        (repeat (first
    | (apply is_ok; (case hw => simp [g1, g2, hlt, v5, v6, w3]); (case he => simp [g1, g2, hlt, v5, v6, w3]; exact is_rfl))
    | (apply op_no; (case hw => simp [g1, g2, hlt, v5, v6, w3]))
    | refine op_nil ?_ | refine next_normal ?_ | refine go_seq ?_ | refine go_region ?_ | refine go_skip ?_ | refine go_block ?_ | refine inb_normal ?_
    | (apply go_yes; (case hc => simp [g1, g2, hlt, v5, v6, w3])) | (apply go_no; (case hc => simp [g1, g2, hlt, v5, v6, w3]))
    | refine go_exit ?_ | refine next_exit ?_ | refine inb_here ?_ | refine inb_past (by decide) ?_ | refine go_ret ?_ | refine next_ret ?_ | refine inb_ret ?_))
        exact ⟨hlt, by simp [w3], fun k h hk2 => by
          rcases Nat.lt_or_ge k i with h1 | h1
          · exact hI k h h1
          · have : k = i := by omega
            subst this
            exact fun h => absurd h d1⟩
    · have : i = 8 := by omega
      subst this
      have hu : ∀ p ∈ s.ps, hasP p → UsuP (p.base, p.blk) := fun p hp => by
        obtain ⟨k, hk', rfl⟩ := List.mem_iff_getElem.1 hp
        exact hI k hk' (by omega)
      rw [rightB_yes ⟨c1, c2, c3, c7, hu⟩] at hB
      have l1 := coreL_len s.ps
      have l2 := swpL_len s.ps
      have v7 := apart_eq (coreL s.ps) (by omega) (coreL_up hu) s.co c1.big
      have v8 := apart_eq (swpL s.ps) (by omega) (swpL_up hu) s.sw c2.big
      generalize apB (swpL s.ps) s.sw = b2 at v8 hB
      cases b1 : apB (coreL s.ps) s.co <;>
      · rw [b1] at v7 hB
        subst hB
        (repeat (first
    | (apply is_ok; (case hw => simp [z1, z2, v7, v8, exV]); (case he => simp [z1, z2, v7, v8, exV]; exact is_rfl))
    | (apply op_no; (case hw => simp [z1, z2, v7, v8, exV]))
    | refine op_nil ?_ | refine next_normal ?_ | refine go_seq ?_ | refine go_region ?_ | refine go_skip ?_ | refine go_block ?_ | refine inb_normal ?_
    | (apply go_yes; (case hc => simp [z1, z2, v7, v8, exV])) | (apply go_no; (case hc => simp [z1, z2, v7, v8, exV]))
    | refine go_exit ?_ | refine next_exit ?_ | refine inb_here ?_ | refine inb_past (by decide) ?_ | refine go_ret ?_ | refine next_ret ?_ | refine inb_ret ?_))
        (apply ends_ok; (case h1 => simp; exact is_rfl); (case h2 => simp; exact is_rfl))
        simp
set_option maxHeartbeats 4000000 in
theorem swRightR_eq (s : Sys) (hm : s.mem.length ≤ 1000000) (hS : s.S.length ≤ 1000000) (hk : ∀ p ∈ s.ps, -9223372036854775808 ≤ p.blk ∧ p.blk ≤ 9223372036854775807) : bodyW DC 21 [.agg s.cells] [] = some (.bool (rightB s), []) := by
  have hps := s.hps
  have v1 := Usual_eq s.co
  have v2 := Usual_eq s.sw
  generalize hB : rightB s = B
  by_cases c1 : UsuP s.co
  case neg =>
    obtain rfl : B = false := by rw [← hB]; exact rightB_no fun h => c1 h.1
    rw [decide_eq_false c1] at v1
    by_cases c2 : UsuP s.sw
    · rw [decide_eq_true c2] at v2
      (refine gives_iff ?_; refine go_func Try.f21 rfl rfl (by simp [Try.f21]) ?_; dsimp only [codeL, Try.f21, scL, sopsL, guardL, dstAt, loopKey])
      (repeat (first
    | (apply is_ok; (case hw => simp [v1, v2, exV]); (case he => simp [v1, v2, exV]; exact is_rfl))
    | (apply op_no; (case hw => simp [v1, v2, exV]))
    | refine op_nil ?_ | refine next_normal ?_ | refine go_seq ?_ | refine go_region ?_ | refine go_skip ?_ | refine go_block ?_ | refine inb_normal ?_
    | (apply go_yes; (case hc => simp [v1, v2, exV])) | (apply go_no; (case hc => simp [v1, v2, exV]))
    | refine go_exit ?_ | refine next_exit ?_ | refine inb_here ?_ | refine inb_past (by decide) ?_ | refine go_ret ?_ | refine next_ret ?_ | refine inb_ret ?_))
      (apply ends_ok; (case h1 => simp; exact is_rfl); (case h2 => simp; exact is_rfl))
      simp
    · rw [decide_eq_false c2] at v2
      (refine gives_iff ?_; refine go_func Try.f21 rfl rfl (by simp [Try.f21]) ?_; dsimp only [codeL, Try.f21, scL, sopsL, guardL, dstAt, loopKey])
      (repeat (first
    | (apply is_ok; (case hw => simp [v1, v2, exV]); (case he => simp [v1, v2, exV]; exact is_rfl))
    | (apply op_no; (case hw => simp [v1, v2, exV]))
    | refine op_nil ?_ | refine next_normal ?_ | refine go_seq ?_ | refine go_region ?_ | refine go_skip ?_ | refine go_block ?_ | refine inb_normal ?_
    | (apply go_yes; (case hc => simp [v1, v2, exV])) | (apply go_no; (case hc => simp [v1, v2, exV]))
    | refine go_exit ?_ | refine next_exit ?_ | refine inb_here ?_ | refine inb_past (by decide) ?_ | refine go_ret ?_ | refine next_ret ?_ | refine inb_ret ?_))
      (apply ends_ok; (case h1 => simp; exact is_rfl); (case h2 => simp; exact is_rfl))
      simp
  rw [decide_eq_true c1] at v1
  by_cases c2 : UsuP s.sw
  case neg =>
    obtain rfl : B = false := by rw [← hB]; exact rightB_no fun h => c2 h.2.1
    rw [decide_eq_false c2] at v2
    (refine gives_iff ?_; refine go_func Try.f21 rfl rfl (by simp [Try.f21]) ?_; dsimp only [codeL, Try.f21, scL, sopsL, guardL, dstAt, loopKey])
    (repeat (first
    | (apply is_ok; (case hw => simp [v1, v2, exV]); (case he => simp [v1, v2, exV]; exact is_rfl))
    | (apply op_no; (case hw => simp [v1, v2, exV]))
    | refine op_nil ?_ | refine next_normal ?_ | refine go_seq ?_ | refine go_region ?_ | refine go_skip ?_ | refine go_block ?_ | refine inb_normal ?_
    | (apply go_yes; (case hc => simp [v1, v2, exV])) | (apply go_no; (case hc => simp [v1, v2, exV]))
    | refine go_exit ?_ | refine next_exit ?_ | refine inb_here ?_ | refine inb_past (by decide) ?_ | refine go_ret ?_ | refine next_ret ?_ | refine inb_ret ?_))
    (apply ends_ok; (case h1 => simp; exact is_rfl); (case h2 => simp; exact is_rfl))
    simp
  rw [decide_eq_true c2] at v2
  have u1 := c1.1
  have u2 := c1.2.1
  have u3 := c1.2.2.1
  have u4 := c1.2.2.2
  have u5 := c2.1
  have u6 := c2.2.1
  have u7 := c2.2.2.1
  have u8 := c2.2.2.2
  have v3 : IntKind.i64.wrap (s.co.1 + s.co.2) = s.co.1 + s.co.2 := wrap_id (by omega) (by omega)
  have v4 : IntKind.i64.wrap (s.sw.1 + s.sw.2) = s.sw.1 + s.sw.2 := wrap_id (by omega) (by omega)
  have w1 : IntKind.i64.wrap ((s.co.1 + s.co.2) * 32) = (s.co.1 + s.co.2) * 32 := wrap_id (by omega) (by omega)
  by_cases c3 : 0 < s.co.2 ∧ (s.mem.length : Int) < (s.co.1 + s.co.2) * 32
  · obtain rfl : B = false := by rw [← hB]; exact rightB_no fun h => h.2.2.1 c3
    obtain ⟨c4, c5⟩ := c3
    have c6 : (s.mem.length : Int) < (s.co.1 + s.co.2) * 32 := by omega
    (refine gives_iff ?_; refine go_func Try.f21 rfl rfl (by simp [Try.f21]) ?_; dsimp only [codeL, Try.f21, scL, sopsL, guardL, dstAt, loopKey])
    (repeat (first
    | (apply is_ok; (case hw => simp [v1, v2, v3, v4, exV, w1, c4, c6]); (case he => simp [v1, v2, v3, v4, exV, w1, c4, c6]; exact is_rfl))
    | (apply op_no; (case hw => simp [v1, v2, v3, v4, exV, w1, c4, c6]))
    | refine op_nil ?_ | refine next_normal ?_ | refine go_seq ?_ | refine go_region ?_ | refine go_skip ?_ | refine go_block ?_ | refine inb_normal ?_
    | (apply go_yes; (case hc => simp [v1, v2, v3, v4, exV, w1, c4, c6])) | (apply go_no; (case hc => simp [v1, v2, v3, v4, exV, w1, c4, c6]))
    | refine go_exit ?_ | refine next_exit ?_ | refine inb_here ?_ | refine inb_past (by decide) ?_ | refine go_ret ?_ | refine next_ret ?_ | refine inb_ret ?_))
    (apply ends_ok; (case h1 => simp; exact is_rfl); (case h2 => simp; exact is_rfl))
    simp
  by_cases c7 : 0 < s.sw.2 ∧ (s.S.length : Int) < s.sw.1 + s.sw.2
  · obtain rfl : B = false := by rw [← hB]; exact rightB_no fun h => h.2.2.2.1 c7
    obtain ⟨c8, c9⟩ := c7
    by_cases c4 : 0 < s.co.2
    · have c6 : ¬ (s.mem.length : Int) < (s.co.1 + s.co.2) * 32 := by have := fun h => c3 ⟨c4, h⟩; omega
      (refine gives_iff ?_; refine go_func Try.f21 rfl rfl (by simp [Try.f21]) ?_; dsimp only [codeL, Try.f21, scL, sopsL, guardL, dstAt, loopKey])
      (repeat (first
    | (apply is_ok; (case hw => simp [v1, v2, v3, v4, exV, w1, c4, c6, c8, c9]); (case he => simp [v1, v2, v3, v4, exV, w1, c4, c6, c8, c9]; exact is_rfl))
    | (apply op_no; (case hw => simp [v1, v2, v3, v4, exV, w1, c4, c6, c8, c9]))
    | refine op_nil ?_ | refine next_normal ?_ | refine go_seq ?_ | refine go_region ?_ | refine go_skip ?_ | refine go_block ?_ | refine inb_normal ?_
    | (apply go_yes; (case hc => simp [v1, v2, v3, v4, exV, w1, c4, c6, c8, c9])) | (apply go_no; (case hc => simp [v1, v2, v3, v4, exV, w1, c4, c6, c8, c9]))
    | refine go_exit ?_ | refine next_exit ?_ | refine inb_here ?_ | refine inb_past (by decide) ?_ | refine go_ret ?_ | refine next_ret ?_ | refine inb_ret ?_))
      (apply ends_ok; (case h1 => simp; exact is_rfl); (case h2 => simp; exact is_rfl))
      simp
    · (refine gives_iff ?_; refine go_func Try.f21 rfl rfl (by simp [Try.f21]) ?_; dsimp only [codeL, Try.f21, scL, sopsL, guardL, dstAt, loopKey])
      (repeat (first
    | (apply is_ok; (case hw => simp [v1, v2, v3, v4, exV, w1, c4, c8, c9]); (case he => simp [v1, v2, v3, v4, exV, w1, c4, c8, c9]; exact is_rfl))
    | (apply op_no; (case hw => simp [v1, v2, v3, v4, exV, w1, c4, c8, c9]))
    | refine op_nil ?_ | refine next_normal ?_ | refine go_seq ?_ | refine go_region ?_ | refine go_skip ?_ | refine go_block ?_ | refine inb_normal ?_
    | (apply go_yes; (case hc => simp [v1, v2, v3, v4, exV, w1, c4, c8, c9])) | (apply go_no; (case hc => simp [v1, v2, v3, v4, exV, w1, c4, c8, c9]))
    | refine go_exit ?_ | refine next_exit ?_ | refine inb_here ?_ | refine inb_past (by decide) ?_ | refine go_ret ?_ | refine next_ret ?_ | refine inb_ret ?_))
      (apply ends_ok; (case h1 => simp; exact is_rfl); (case h2 => simp; exact is_rfl))
      simp
  have c5 : 0 < s.co.2 → ¬ (s.mem.length : Int) < (s.co.1 + s.co.2) * 32 := fun h1 h2 => c3 ⟨h1, by omega⟩
  have c9 : 0 < s.sw.2 → ¬ (s.S.length : Int) < s.sw.1 + s.sw.2 := fun h1 h2 => c7 ⟨h1, h2⟩
  have z1 := CoreR_eq s
  have z2 := SwappedR_eq s hk
  by_cases c4 : 0 < s.co.2 <;> by_cases c8 : 0 < s.sw.2 <;>
  · (refine gives_iff ?_; refine go_func Try.f21 rfl rfl (by simp [Try.f21]) ?_; dsimp only [codeL, Try.f21, scL, sopsL, guardL, dstAt, loopKey])
    (repeat (first
    | (apply is_ok; (case hw => simp [v1, v2, v3, v4, exV, w1, c4, c5, c8, c9]); (case he => simp [v1, v2, v3, v4, exV, w1, c4, c5, c8, c9]; exact is_rfl))
    | (apply op_no; (case hw => simp [v1, v2, v3, v4, exV, w1, c4, c5, c8, c9]))
    | refine op_nil ?_ | refine next_normal ?_ | refine go_seq ?_ | refine go_region ?_ | refine go_skip ?_ | refine go_block ?_ | refine inb_normal ?_
    | (apply go_yes; (case hc => simp [v1, v2, v3, v4, exV, w1, c4, c5, c8, c9])) | (apply go_no; (case hc => simp [v1, v2, v3, v4, exV, w1, c4, c5, c8, c9]))
    | refine go_exit ?_ | refine next_exit ?_ | refine inb_here ?_ | refine inb_past (by decide) ?_ | refine go_ret ?_ | refine next_ret ?_ | refine inb_ret ?_))
    refine go_count 8 (fun i => [(1, .ptr 0 1 0 0), (3, .int .i64 i)]) (fun i => [.box (.agg s.cells)]) (fun i => ∀ k (h : k < s.ps.length), k < i → hasP s.ps[k] → UsuP (s.ps[k].base, s.ps[k].blk)) (by simp) (fun j _ h => absurd h (Nat.not_lt_zero j)) fun i hi hI => ?_
    by_cases hlt : i < 8
    · have g1 : (i : Int) < 8 := by omega
      have g0 : i < s.ps.length := by omega
      have g2 : s.ps[i]? = some s.ps[i] := List.getElem?_eq_getElem g0
      have w3 : IntKind.i64.wrap ((i : Int) + 1) = (i : Int) + 1 := wrap_id (by omega) (by omega)
      have v5 := hasR_eq s.ps[i]
      have v6 := Usual_eq (s.ps[i].base, s.ps[i].blk)
      by_cases d1 : hasP s.ps[i]
      · rw [decide_eq_true d1] at v5
        by_cases d2 : UsuP (s.ps[i].base, s.ps[i].blk)
        · rw [decide_eq_true d2] at v6
          (repeat (first
    | (apply is_ok; (case hw => simp [g1, g2, hlt, v5, v6, w3]); (case he => simp [g1, g2, hlt, v5, v6, w3]; exact is_rfl))
    | (apply op_no; (case hw => simp [g1, g2, hlt, v5, v6, w3]))
    | refine op_nil ?_ | refine next_normal ?_ | refine go_seq ?_ | refine go_region ?_ | refine go_skip ?_ | refine go_block ?_ | refine inb_normal ?_
    | (apply go_yes; (case hc => simp [g1, g2, hlt, v5, v6, w3])) | (apply go_no; (case hc => simp [g1, g2, hlt, v5, v6, w3]))
    | refine go_exit ?_ | refine next_exit ?_ | refine inb_here ?_ | refine inb_past (by decide) ?_ | refine go_ret ?_ | refine next_ret ?_ | refine inb_ret ?_))
          exact ⟨hlt, by simp [w3], fun k h hk2 => by
            rcases Nat.lt_or_ge k i with h1 | h1
            · exact hI k h h1
            · have : k = i := by omega
              subst this
              exact fun _ => d2⟩
        · rw [decide_eq_false d2] at v6
          obtain rfl : B = false := by rw [← hB]; exact rightB_no fun h => d2 (h.2.2.2.2 _ (List.getElem_mem g0) d1)
          (repeat (first
    | (apply is_ok; (case hw => simp [g1, g2, hlt, v5, v6, w3]); (case he => simp [g1, g2, hlt, v5, v6, w3]; exact is_rfl))
    | (apply op_no; (case hw => simp [g1, g2, hlt, v5, v6, w3]))
    | refine op_nil ?_ | refine next_normal ?_ | refine go_seq ?_ | refine go_region ?_ | refine go_skip ?_ | refine go_block ?_ | refine inb_normal ?_
    | (apply go_yes; (case hc => simp [g1, g2, hlt, v5, v6, w3])) | (apply go_no; (case hc => simp [g1, g2, hlt, v5, v6, w3]))
    | refine go_exit ?_ | refine next_exit ?_ | refine inb_here ?_ | refine inb_past (by decide) ?_ | refine go_ret ?_ | refine next_ret ?_ | refine inb_ret ?_))
          (apply ends_ok; (case h1 => simp; exact is_rfl); (case h2 => simp; exact is_rfl))
          simp
      · rw [decide_eq_false d1] at v5
        (repeat (first
    | (apply is_ok; (case hw => simp [g1, g2, hlt, v5, v6, w3]); (case he => simp [g1, g2, hlt, v5, v6, w3]; exact is_rfl))
    | (apply op_no; (case hw => simp [g1, g2, hlt, v5, v6, w3]))
    | refine op_nil ?_ | refine next_normal ?_ | refine go_seq ?_ | refine go_region ?_ | refine go_skip ?_ | refine go_block ?_ | refine inb_normal ?_
    | (apply go_yes; (case hc => simp [g1, g2, hlt, v5, v6, w3])) | (apply go_no; (case hc => simp [g1, g2, hlt, v5, v6, w3]))
    | refine go_exit ?_ | refine next_exit ?_ | refine inb_here ?_ | refine inb_past (by decide) ?_ | refine go_ret ?_ | refine next_ret ?_ | refine inb_ret ?_))
        exact ⟨hlt, by simp [w3], fun k h hk2 => by
          rcases Nat.lt_or_ge k i with h1 | h1
          · exact hI k h h1
          · have : k = i := by omega
            subst this
            exact fun h => absurd h d1⟩
    · have : i = 8 := by omega
      subst this
      have hu : ∀ p ∈ s.ps, hasP p → UsuP (p.base, p.blk) := fun p hp => by
        obtain ⟨k, hk', rfl⟩ := List.mem_iff_getElem.1 hp
        exact hI k hk' (by omega)
      rw [rightB_yes ⟨c1, c2, c3, c7, hu⟩] at hB
      have l1 := coreL_len s.ps
      have l2 := swpL_len s.ps
      have v7 := placed_eq (coreL s.ps) (by omega) (coreL_up hu) s.co c1.big
      have v8 := placed_eq (swpL s.ps) (by omega) (swpL_up hu) s.sw c2.big
      generalize apB (swpL s.ps) s.sw = b2 at v8 hB
      cases b1 : apB (coreL s.ps) s.co <;>
      · rw [b1] at v7 hB
        subst hB
        (repeat (first
    | (apply is_ok; (case hw => simp [z1, z2, v7, v8, exV]); (case he => simp [z1, z2, v7, v8, exV]; exact is_rfl))
    | (apply op_no; (case hw => simp [z1, z2, v7, v8, exV]))
    | refine op_nil ?_ | refine next_normal ?_ | refine go_seq ?_ | refine go_region ?_ | refine go_skip ?_ | refine go_block ?_ | refine inb_normal ?_
    | (apply go_yes; (case hc => simp [z1, z2, v7, v8, exV])) | (apply go_no; (case hc => simp [z1, z2, v7, v8, exV]))
    | refine go_exit ?_ | refine next_exit ?_ | refine inb_here ?_ | refine inb_past (by decide) ?_ | refine go_ret ?_ | refine next_ret ?_ | refine inb_ret ?_))
        (apply ends_ok; (case h1 => simp; exact is_rfl); (case h2 => simp; exact is_rfl))
        simp
end Go.Abs

namespace Go.Abs
open Go.Proofs
set_option maxRecDepth 100000
set_option linter.unusedSimpArgs false

end Go.Abs

namespace Go.Abs
open Go.Proofs
set_option maxRecDepth 100000
set_option linter.unusedSimpArgs false
set_option linter.unusedVariables false

theorem drv_cells {n : Nat} {cs : List V} (h : HasT Try.prog n 47 cs) : ∃ S B, cs = [.sl (strs S), .sl (ints B)] ∧ S.length ≤ maxLen ∧ B.length ≤ maxLen := by
  obtain ⟨m, rfl, h1, h2⟩ := hasT_struct Try.underlying47 h
  have hl : cs.length = 2 := h1.trans (by kernel_rfl)
  match cs, hl with
  | [a, b], _ =>
    have f0 := h2 0 _ rfl
    have f1 := h2 1 _ rfl
    obtain ⟨S, e1, hS, _⟩ := hasT_strs Try.underlying45 (cells_ne (n := 1) (by kernel_rfl) (by decide)) Try.underlying9 f0
    obtain ⟨B, e2, hB, _⟩ := hasT_ints Try.underlying35 (cells_ne (n := 1) (by kernel_rfl) (by decide)) Try.underlying3 f1
    have e1' : [a] = [V.sl (strs S)] := e1
    have e2' : [b] = [V.sl (ints B)] := e2
    cases e1'
    cases e2'
    exact ⟨S, B, rfl, hS, hB⟩
theorem drv_of {x : V} (h : ArgT Try.prog 47 x) : ∃ S B, x = drv S B ∧ S.length ≤ maxLen ∧ B.length ≤ maxLen := by
  obtain ⟨n, h1, h2⟩ := h
  rw [show aggT Try.prog 47 = some true by kernel_rfl] at h2
  obtain ⟨cs, rfl⟩ := cells_some (Option.some.inj h2).symm
  obtain ⟨S, B, h3, h4⟩ := drv_cells h1
  cases h3
  exact ⟨S, B, rfl, h4⟩

end Go.Abs

namespace Go.Abs
open Go.Proofs
set_option maxRecDepth 100000
set_option linter.unusedSimpArgs false
set_option linter.unusedVariables false

theorem piece (cs : List V) (o n : Nat) : cs.drop o = (cs.drop o).take n ++ cs.drop (o + n) := by
  rw [← List.drop_drop, List.take_append_drop]
theorem part_part (cs : List V) {o n p m : Nat} (h : p + m ≤ n) : (((cs.drop o).take n).drop p).take m = (cs.drop (o + p)).take m := by
  rw [List.drop_take, List.drop_drop, List.take_take]
  congr 1
  omega
/-- Cells out of plain ones. -/
def csOf (cs : List V) (hp : ∀ x ∈ cs, PlainV x) (o n : Nat) (h : o + n ≤ cs.length) : Cs n := ⟨(cs.drop o).take n, by simp; omega, fun x hx => hp x (List.mem_of_mem_drop (List.mem_of_mem_take hx))⟩

/-- All numbers of a process are numbers. -/
def Pr.Wf (p : Pr) : Prop := (-9223372036854775808 ≤ p.st ∧ p.st ≤ 9223372036854775807) ∧ (-9223372036854775808 ≤ p.base ∧ p.base ≤ 9223372036854775807) ∧ (-9223372036854775808 ≤ p.blk ∧ p.blk ≤ 9223372036854775807)

theorem pr_cells {n : Nat} {cs : List V} (h : HasT Try.prog n 56 cs) : ∃ p : Pr, cs = p.cells ∧ p.Wf := by
  have hp := hasT_plain 10 n 56 cs (by kernel_rfl) h
  obtain ⟨m, rfl, h1, h2⟩ := hasT_struct Try.underlying56 h
  have hl : cs.length = 29 := h1.trans (by kernel_rfl)
  have f2 := h2 2 _ rfl
  have f4 := h2 4 _ rfl
  have f5 := h2 5 _ rfl
  have f6 := h2 6 _ rfl
  obtain ⟨st, e2, w2⟩ := hasT_int Try.underlying3 f2
  obtain ⟨ba, e4, w4⟩ := hasT_int Try.underlying3 f4
  obtain ⟨bl, e5, w5⟩ := hasT_int Try.underlying3 f5
  obtain ⟨sw, e6⟩ := hasT_bool Try.underlying4 f6
  have e2' : (cs.drop 2).take 1 = [V.int .i64 st] := e2
  have e4' : (cs.drop 13).take 1 = [V.int .i64 ba] := e4
  have e5' : (cs.drop 14).take 1 = [V.int .i64 bl] := e5
  have e6' : (cs.drop 15).take 1 = [V.bool sw] := e6
  refine ⟨⟨csOf cs hp 0 2 (by omega), st, csOf cs hp 3 10 (by omega), ba, bl, sw, csOf cs hp 16 13 (by omega)⟩, ?_, wf_i64 w2, wf_i64 w4, wf_i64 w5⟩
  have e : cs = (cs.drop 0).take 2 ++ ((cs.drop 2).take 1 ++ ((cs.drop 3).take 10 ++ ((cs.drop 13).take 1 ++ ((cs.drop 14).take 1 ++ ((cs.drop 15).take 1 ++ (cs.drop 16).take 13))))) := by
    have h16 : (cs.drop 16).take 13 = cs.drop 16 := List.take_of_length_le (by simp; omega)
    rw [h16, ← piece cs 15 1, ← piece cs 14 1, ← piece cs 13 1, ← piece cs 3 10, ← piece cs 2 1, ← piece cs 0 2]
    rfl
  rw [e2', e4', e5', e6'] at e
  exact e

theorem prs_cells : ∀ (k : Nat) (part : List V), part.length = k * 29 → (∀ i, i < k → ∃ p : Pr, (part.drop (i * 29)).take 29 = p.cells ∧ p.Wf) → ∃ ps : List Pr, ps.length = k ∧ part = prsC ps ∧ ∀ p ∈ ps, p.Wf
  | 0, part, hl, _ => ⟨[], rfl, List.eq_nil_of_length_eq_zero (by omega), by simp⟩
  | k + 1, part, hl, h => by
    obtain ⟨p, h1, h2⟩ := h 0 (by omega)
    obtain ⟨ps, h3, h4, h5⟩ := prs_cells k (part.drop 29) (by simp; omega) fun i hi => by
      obtain ⟨q, h6, h7⟩ := h (i + 1) (by omega)
      refine ⟨q, ?_, h7⟩
      rw [List.drop_drop, show 29 + i * 29 = (i + 1) * 29 by omega]
      exact h6
    refine ⟨p :: ps, by simp [h3], ?_, fun q hq => ?_⟩
    · have e : part = (part.drop (0 * 29)).take 29 ++ part.drop 29 := by simp
      rw [e, h1, h4]
      simp [prsC]
    · rcases List.mem_cons.1 hq with rfl | hq
      · exact h2
      · exact h5 q hq

/-- What an argument of type api.System is. -/
structure Sys.Wf (s : Sys) : Prop where
  ps : ∀ p ∈ s.ps, p.Wf
  mem : s.mem.length ≤ maxLen
  memw : ∀ x ∈ s.mem, -9223372036854775808 ≤ x ∧ x ≤ 9223372036854775807
  bad : s.bad.length ≤ maxLen
  badw : ∀ x ∈ s.bad, -9223372036854775808 ≤ x ∧ x ≤ 9223372036854775807
  S : s.S.length ≤ maxLen
  B : s.B.length ≤ maxLen

theorem sys_of {x : V} (h : ArgT Try.prog 66 x) : ∃ s : Sys, x = .agg s.cells ∧ s.Wf := by
  obtain ⟨n, h1, h2⟩ := h
  rw [show aggT Try.prog 66 = some true by kernel_rfl] at h2
  obtain ⟨cs, rfl⟩ := cells_some (Option.some.inj h2).symm
  have h1' : HasT Try.prog n 66 cs := h1
  have hp := hasT_plain 10 n 66 cs (by kernel_rfl) h1'
  obtain ⟨m, rfl, h3, h4⟩ := hasT_struct Try.underlying66 h1'
  have hl : cs.length = 518 := h3.trans (by kernel_rfl)
  have fM := h4 0 _ rfl
  have fP := h4 1 _ rfl
  have fS := h4 5 _ rfl
  have fC := h4 6 _ rfl
  obtain ⟨m1, rfl, _, hM⟩ := hasT_struct Try.underlying53 fM
  have fmem := hM 1 _ rfl
  have fbad := hM 2 _ rfl
  have fdisk := hM 6 _ rfl
  obtain ⟨m2, rfl, _, hD⟩ := hasT_struct Try.underlying49 fdisk
  have fdrv := hD 0 _ rfl
  obtain ⟨m3, rfl, _, hV⟩ := hasT_struct Try.underlying47 fdrv
  have fsec := hV 0 _ rfl
  have fb := hV 1 _ rfl
  obtain ⟨mem, e1, hm1, hm2⟩ := hasT_ints Try.underlying35 (cells_ne (n := 1) (by kernel_rfl) (by decide)) Try.underlying3 fmem
  obtain ⟨bad, e2, hb1, hb2⟩ := hasT_ints Try.underlying35 (cells_ne (n := 1) (by kernel_rfl) (by decide)) Try.underlying3 fbad
  obtain ⟨S, e3, hS, _⟩ := hasT_strs Try.underlying45 (cells_ne (n := 1) (by kernel_rfl) (by decide)) Try.underlying9 fsec
  obtain ⟨B, e4, hB, _⟩ := hasT_ints Try.underlying35 (cells_ne (n := 1) (by kernel_rfl) (by decide)) Try.underlying3 fb
  obtain ⟨sw, e5⟩ := ex_cells fS
  obtain ⟨co, e6⟩ := ex_cells fC
  have e1' : (cs.drop 10).take 1 = [V.sl (ints mem)] := (part_part cs (o := 0) (n := 110) (p := 10) (m := 1) (by decide)).symm.trans e1
  have e2' : (cs.drop 11).take 1 = [V.sl (ints bad)] := (part_part cs (o := 0) (n := 110) (p := 11) (m := 1) (by decide)).symm.trans e2
  have q1 : ∀ (p k : Nat), p + k ≤ 2 → (((((((cs.drop 0).take 110).drop 84).take 10).drop 0).take 2).drop p).take k = (cs.drop (84 + p)).take k := fun p k hk => by
    rw [part_part cs (o := 0) (n := 110) (p := 84) (m := 10) (by decide), part_part cs (o := 0 + 84) (n := 10) (p := 0) (m := 2) (by decide), part_part cs hk]
  have e3' : (cs.drop 84).take 1 = [V.sl (strs S)] := (q1 0 1 (by decide)).symm.trans e3
  have e4' : (cs.drop 85).take 1 = [V.sl (ints B)] := (q1 1 1 (by decide)).symm.trans e4
  have e5' : (cs.drop 511).take 2 = [.int .i64 sw.1, .int .i64 sw.2] := by have := V.agg.inj e5; exact this
  have e6' : (cs.drop 513).take 2 = [.int .i64 co.1, .int .i64 co.2] := by have := V.agg.inj e6; exact this
  obtain ⟨m4, _, _, hA⟩ := hasT_array Try.underlying57 fP
  obtain ⟨ps, hps, e7, hpw⟩ := prs_cells 8 ((cs.drop 110).take 232) (by simp; omega) fun i hi => pr_cells (hA i hi)
  refine ⟨⟨csOf cs hp 0 10 (by omega), mem, bad, csOf cs hp 12 72 (by omega), S, B, csOf cs hp 86 24 (by omega), ps, hps, csOf cs hp 342 169 (by omega), sw, co, csOf cs hp 515 3 (by omega)⟩, ?_, hpw, hm1, fun x hx => wf_i64 (hm2 x hx), hb1, fun x hx => wf_i64 (hb2 x hx), hS, hB⟩
  have e : cs = (cs.drop 0).take 10 ++ ((cs.drop 10).take 1 ++ ((cs.drop 11).take 1 ++ ((cs.drop 12).take 72 ++ ((cs.drop 84).take 1 ++ ((cs.drop 85).take 1 ++ ((cs.drop 86).take 24 ++ ((cs.drop 110).take 232 ++ ((cs.drop 342).take 169 ++ ((cs.drop 511).take 2 ++ ((cs.drop 513).take 2 ++ (cs.drop 515).take 3)))))))))) := by
    have h16 : (cs.drop 515).take 3 = cs.drop 515 := List.take_of_length_le (by simp; omega)
    rw [h16, ← piece cs 513 2, ← piece cs 511 2, ← piece cs 342 169, ← piece cs 110 232, ← piece cs 86 24, ← piece cs 85 1, ← piece cs 84 1, ← piece cs 12 72, ← piece cs 11 1, ← piece cs 10 1, ← piece cs 0 10]
    rfl
  rw [e1', e2', e3', e4', e5', e6', e7] at e
  exact congrArg V.agg e
end Go.Abs

namespace Go.Abs
open Go.Proofs
set_option maxRecDepth 100000
set_option linter.unusedSimpArgs false
set_option linter.unusedVariables false

theorem SwapLists_eq (s : Sys) (hs : s.Wf) (n : Int) (hn : (Lit.int .i64 n).wf = true) : bodyW DC 4 [.agg s.cells, .int .i64 n] [] = some (.bool true, []) := by
  have hn' := wf_i64 hn
  have hk : ∀ p ∈ s.ps, -9223372036854775808 ≤ p.blk ∧ p.blk ≤ 9223372036854775807 := fun p hp => (hs.ps p hp).2.2
  have hps := s.hps
  by_cases c1 : s.mem.length ≤ 2048
  case neg =>
    have c2 : (2048 : Int) < s.mem.length := by omega
    (refine gives_iff ?_; refine go_func Try.f4 rfl rfl (by simp [Try.f4]) ?_; dsimp only [codeL, Try.f4, scL, sopsL, guardL, dstAt, loopKey])
    (repeat (first
    | (apply is_ok; (case hw => simp [c2]); (case he => simp [c2]; exact is_rfl))
    | (apply op_no; (case hw => simp [c2]))
    | refine op_nil ?_ | refine next_normal ?_ | refine go_seq ?_ | refine go_region ?_ | refine go_skip ?_ | refine go_block ?_ | refine inb_normal ?_
    | (apply go_yes; (case hc => simp [c2])) | (apply go_no; (case hc => simp [c2]))
    | refine go_exit ?_ | refine next_exit ?_ | refine inb_here ?_ | refine inb_past (by decide) ?_ | refine go_ret ?_ | refine next_ret ?_ | refine inb_ret ?_))
    (apply ends_ok; (case h1 => simp; exact is_rfl); (case h2 => simp; exact is_rfl))
    simp
  by_cases c3 : s.S.length ≤ 256
  case neg =>
    have c2 : ¬ (2048 : Int) < s.mem.length := by omega
    have c4 : (256 : Int) < s.S.length := by omega
    (refine gives_iff ?_; refine go_func Try.f4 rfl rfl (by simp [Try.f4]) ?_; dsimp only [codeL, Try.f4, scL, sopsL, guardL, dstAt, loopKey])
    (repeat (first
    | (apply is_ok; (case hw => simp [c2, c4]); (case he => simp [c2, c4]; exact is_rfl))
    | (apply op_no; (case hw => simp [c2, c4]))
    | refine op_nil ?_ | refine next_normal ?_ | refine go_seq ?_ | refine go_region ?_ | refine go_skip ?_ | refine go_block ?_ | refine inb_normal ?_
    | (apply go_yes; (case hc => simp [c2, c4])) | (apply go_no; (case hc => simp [c2, c4]))
    | refine go_exit ?_ | refine next_exit ?_ | refine inb_here ?_ | refine inb_past (by decide) ?_ | refine go_ret ?_ | refine next_ret ?_ | refine inb_ret ?_))
    (apply ends_ok; (case h1 => simp; exact is_rfl); (case h2 => simp; exact is_rfl))
    simp
  have c2 : ¬ (2048 : Int) < s.mem.length := by omega
  have c4 : ¬ (256 : Int) < s.S.length := by omega
  have v1 := Sectors_eq n hn'
  have v2 := SectorsR_eq n hn'
  have v3 := Core_eq s
  have v4 := CoreR_eq s
  have v5 := Swapped_eq s hk
  have v6 := SwappedR_eq s hk
  have l1 := coreL_len s.ps
  have l2 := swpL_len s.ps
  have v7 := SameEx_eq (coreL s.ps) (by omega)
  have v8 := SameEx_eq (swpL s.ps) (by omega)
  have v9 := swRight_eq s (by omega) (by omega) hk
  have v10 := swRightR_eq s (by omega) (by omega) hk
  generalize secN n = q at v1 v2
  generalize rightB s = b at v9 v10
  (refine gives_iff ?_; refine go_func Try.f4 rfl rfl (by simp [Try.f4]) ?_; dsimp only [codeL, Try.f4, scL, sopsL, guardL, dstAt, loopKey])
  (repeat (first
    | (apply is_ok; (case hw => simp [c2, c4, v1, v2, v3, v4, v5, v6, v7, v8, v9, v10, alive45_eq]); (case he => simp [c2, c4, v1, v2, v3, v4, v5, v6, v7, v8, v9, v10, alive45_eq]; exact is_rfl))
    | (apply op_no; (case hw => simp [c2, c4, v1, v2, v3, v4, v5, v6, v7, v8, v9, v10, alive45_eq]))
    | refine op_nil ?_ | refine next_normal ?_ | refine go_seq ?_ | refine go_region ?_ | refine go_skip ?_ | refine go_block ?_ | refine inb_normal ?_
    | (apply go_yes; (case hc => simp [c2, c4, v1, v2, v3, v4, v5, v6, v7, v8, v9, v10, alive45_eq])) | (apply go_no; (case hc => simp [c2, c4, v1, v2, v3, v4, v5, v6, v7, v8, v9, v10, alive45_eq]))
    | refine go_exit ?_ | refine next_exit ?_ | refine inb_here ?_ | refine inb_past (by decide) ?_ | refine go_ret ?_ | refine next_ret ?_ | refine inb_ret ?_))
  (apply ends_ok; (case h1 => simp; exact is_rfl); (case h2 => simp; exact is_rfl))
  simp
end Go.Abs

namespace Go.Abs
open Go.Proofs
set_option maxRecDepth 100000
set_option linter.unusedSimpArgs false
set_option linter.unusedVariables false

/-- A single cell. -/
def NoAgg (x : V) : Prop := x.isAgg = false
@[simp] theorem noAgg_sl (es : List V) : NoAgg (.sl es) := by unfold NoAgg; simp
@[simp] theorem noAgg_own (a b c d : Nat) : NoAgg (.own a b c d) := by unfold NoAgg; simp
@[simp] theorem noAgg_nils : NoAgg .nils := by unfold NoAgg; simp

/-- The cells of a system with these slices. -/
def Sys.cw (s : Sys) (m b S B : V) : List V := s.c0.l ++ m :: b :: (s.c1.l ++ S :: B :: (s.c2.l ++ (prsC s.ps ++ (s.c3.l ++ s.tail1))))
theorem Sys.cells_cw (s : Sys) : s.cells = s.cw (.sl (ints s.mem)) (.sl (ints s.bad)) (.sl (strs s.S)) (.sl (ints s.B)) := rfl
theorem Sys.tail1_plain (s : Sys) : ∀ x ∈ s.tail1, PlainV x := fun x hx => s.plain x (by unfold Sys.cells; simp [hx])
@[simp] theorem Sys.cw_len (s : Sys) (m b S B : V) : (s.cw m b S B).length = 518 := by simp [Sys.cw, Sys.tail1, s.c0.len, s.c1.len, s.c2.len, s.c3.len, s.c4.len]
@[simp] theorem Sys.cw_ne (s : Sys) (m b S B : V) : (s.cw m b S B = []) = False := by
  rw [eq_iff_iff, iff_false]; intro h; have := s.cw_len m b S B; rw [h] at this; cases this
theorem sealL_append (H : Heap) : ∀ (a b : List V), sealL H (a ++ b) = match sealL H a, sealL H b with
    | some (a', x), some (b', y) => some (a' ++ b', x ++ y)
    | _, _ => none
  | [], b => by simp [sealL]; cases sealL H b <;> rfl
  | c :: a, b => by
    rw [List.cons_append, sealL, sealL_append H a b, sealL]
    cases sealV H c <;> cases sealL H a <;> cases sealL H b <;> simp
@[simp] theorem Sys.cw_seal (s : Sys) (m b S B : V) (H : Heap) : sealL H (s.cw m b S B) = match sealV H m, sealV H b, sealV H S, sealV H B with
    | some (m', x), some (b', y), some (S', z), some (B', w) => some (s.cw m' b' S' B', x ++ (y ++ (z ++ w)))
    | _, _, _, _ => none := by
  unfold Sys.cw
  rw [sealL_append, plain_sealL _ s.c0.pl, sealL, sealL, sealL_append, plain_sealL _ s.c1.pl, sealL, sealL, plain_sealL (s.c2.l ++ (prsC s.ps ++ (s.c3.l ++ s.tail1))) (by
    intro x hx
    simp only [List.mem_append] at hx
    rcases hx with h | h | h | h
    · exact s.c2.pl x h
    · exact prsC_plain _ x h
    · exact s.c3.pl x h
    · exact s.tail1_plain x h)]
  cases sealV H m <;> cases sealV H b <;> cases sealV H S <;> cases sealV H B <;> simp
theorem refsL_append : ∀ (a b : List V), refsL (a ++ b) = refsL a ++ refsL b
  | [], b => rfl
  | c :: a, b => by rw [List.cons_append, refsL, refsL_append a b, refsL, List.append_assoc]
theorem renL_append (ρ : Nat → Option Nat) : ∀ (a b : List V), renL ρ (a ++ b) = renL ρ a ++ renL ρ b
  | [], b => rfl
  | c :: a, b => by rw [List.cons_append, renL, renL_append ρ a b, renL, List.cons_append]
@[simp] theorem Sys.cw_refs (s : Sys) (m b S B : V) : refsL (s.cw m b S B) = refs m ++ (refs b ++ (refs S ++ (refs B ++ []))) := by
  unfold Sys.cw
  simp only [refsL_append, refsL, plain_refsL _ s.c0.pl, plain_refsL _ s.c1.pl, plain_refsL _ s.c2.pl, plain_refsL _ s.c3.pl, plain_refsL _ (prsC_plain s.ps), plain_refsL _ s.tail1_plain, List.nil_append, List.append_nil, List.append_assoc]
@[simp] theorem Sys.cw_ren (s : Sys) (m b S B : V) (ρ : Nat → Option Nat) : renL ρ (s.cw m b S B) = s.cw (ren ρ m) (ren ρ b) (ren ρ S) (ren ρ B) := by
  unfold Sys.cw
  simp only [renL_append, renL, plain_renL _ s.c0.pl, plain_renL _ s.c1.pl, plain_renL _ s.c2.pl, plain_renL _ s.c3.pl, plain_renL _ (prsC_plain s.ps), plain_renL _ s.tail1_plain]

def Sys.w_p11 (s : Sys) (m b S B : V) : List V := s.c0.l ++ [m]
def Sys.w_p84 (s : Sys) (m b S B : V) : List V := s.c0.l ++ m :: b :: s.c1.l
def Sys.w_p110 (s : Sys) (m b S B : V) : List V := s.c0.l ++ m :: b :: (s.c1.l ++ S :: B :: s.c2.l)
def Sys.w_p511 (s : Sys) (m b S B : V) : List V := s.c0.l ++ m :: b :: (s.c1.l ++ S :: B :: (s.c2.l ++ (prsC s.ps ++ s.c3.l)))
theorem Sys.w_p11_len (s : Sys) (m b S B : V) : (s.w_p11 m b S B).length = 11 := by simp [Sys.w_p11, s.c0.len]
theorem Sys.w_p84_len (s : Sys) (m b S B : V) : (s.w_p84 m b S B).length = 84 := by simp [Sys.w_p84, s.c0.len, s.c1.len]
theorem Sys.w_p110_len (s : Sys) (m b S B : V) : (s.w_p110 m b S B).length = 110 := by simp [Sys.w_p110, s.c0.len, s.c1.len, s.c2.len]
theorem Sys.w_p511_len (s : Sys) (m b S B : V) : (s.w_p511 m b S B).length = 511 := by simp [Sys.w_p511, s.c0.len, s.c1.len, s.c2.len, s.c3.len]
theorem Sys.w_at10 (s : Sys) (m b S B : V) : (s.cw m b S B) = s.c0.l ++ m :: (b :: (s.c1.l ++ S :: B :: (s.c2.l ++ (prsC s.ps ++ (s.c3.l ++ s.tail1))))) := rfl
theorem Sys.w_at11 (s : Sys) (m b S B : V) : (s.cw m b S B) = (s.w_p11 m b S B) ++ b :: (s.c1.l ++ S :: B :: (s.c2.l ++ (prsC s.ps ++ (s.c3.l ++ s.tail1)))) := by simp [Sys.cw, Sys.w_p11]
theorem Sys.w_at84 (s : Sys) (m b S B : V) : (s.cw m b S B) = (s.w_p84 m b S B) ++ ([S, B] ++ (s.c2.l ++ (prsC s.ps ++ (s.c3.l ++ s.tail1)))) := by simp [Sys.cw, Sys.w_p84]
theorem Sys.w_at110 (s : Sys) (m b S B : V) : (s.cw m b S B) = (s.w_p110 m b S B) ++ (prsC s.ps ++ (s.c3.l ++ s.tail1)) := by simp [Sys.cw, Sys.w_p110]
theorem Sys.w_at511 (s : Sys) (m b S B : V) : (s.cw m b S B) = (s.w_p511 m b S B) ++ ([.int .i64 s.sw.1, .int .i64 s.sw.2] ++ (.int .i64 s.co.1 :: .int .i64 s.co.2 :: s.c4.l)) := by simp [Sys.cw, Sys.w_p511, Sys.tail1]
theorem Sys.w_at513 (s : Sys) (m b S B : V) : (s.cw m b S B) = ((s.w_p511 m b S B) ++ [.int .i64 s.sw.1, .int .i64 s.sw.2]) ++ ([.int .i64 s.co.1, .int .i64 s.co.2] ++ s.c4.l) := by simp [Sys.cw, Sys.w_p511, Sys.tail1]

@[simp high] theorem Sys.w_sub_mem (s : Sys) (m b S B : V) (hx : NoAgg m) : sub Try.prog 35 (.agg (s.cw m b S B)) 10 = some (m) := by
  rw [s.w_at10 m b S B]; exact sub_one inf35 agg35 s.c0.len tsz35 hx
@[simp high] theorem Sys.w_sub_bad (s : Sys) (m b S B : V) (hx : NoAgg b) : sub Try.prog 35 (.agg (s.cw m b S B)) 11 = some (b) := by
  rw [s.w_at11 m b S B]; exact sub_one inf35 agg35 (s.w_p11_len m b S B) tsz35 hx
@[simp high] theorem Sys.w_sub_drive (s : Sys) (m b S B : V) : sub Try.prog 47 (.agg (s.cw m b S B)) 84 = some (.agg [S, B]) := by
  rw [s.w_at84 m b S B]; exact sub_agg inf47 agg47 (s.w_p84_len m b S B) tsz47.symm
@[simp high] theorem Sys.w_sub_S (s : Sys) (m b S B : V) (hx : NoAgg S) : sub Try.prog 45 (.agg (s.cw m b S B)) 84 = some (S) := by
  rw [s.w_at84 m b S B]; exact sub_one (pre := (s.w_p84 m b S B)) (post := B :: _) inf45 agg45 (s.w_p84_len m b S B) tsz45 hx
@[simp high] theorem Sys.w_sub_ps (s : Sys) (m b S B : V) : sub Try.prog 57 (.agg (s.cw m b S B)) 110 = some (.agg (prsC s.ps)) := by
  rw [s.w_at110 m b S B]; exact sub_agg inf57 agg57 (s.w_p110_len m b S B) (s.prs_len.trans tsz57.symm)
@[simp high] theorem Sys.w_sub_sw (s : Sys) (m b S B : V) : sub Try.prog 24 (.agg (s.cw m b S B)) 511 = some (exV s.sw) := by
  rw [s.w_at511 m b S B]; exact sub_agg inf24 agg24 (s.w_p511_len m b S B) tsz24.symm
@[simp high] theorem Sys.w_sub_co (s : Sys) (m b S B : V) : sub Try.prog 24 (.agg (s.cw m b S B)) 513 = some (exV s.co) := by
  rw [s.w_at513 m b S B]; exact sub_agg inf24 agg24 (by simp [(s.w_p511_len m b S B)]) tsz24.symm
@[simp high] theorem Sys.w_sub_sw1 (s : Sys) (m b S B : V) : sub Try.prog 3 (.agg (s.cw m b S B)) 511 = some (.int .i64 s.sw.1) := by
  rw [s.w_at511 m b S B]; exact sub_one (pre := (s.w_p511 m b S B)) (post := .int .i64 s.sw.2 :: _) inf3 agg3 (s.w_p511_len m b S B) tsz3 rfl
@[simp high] theorem Sys.w_sub_sw2 (s : Sys) (m b S B : V) : sub Try.prog 3 (.agg (s.cw m b S B)) 512 = some (.int .i64 s.sw.2) := by
  rw [s.w_at511 m b S B, show ∀ (u v : V) (r : List V), (s.w_p511 m b S B) ++ ([u, v] ++ r) = ((s.w_p511 m b S B) ++ [u]) ++ v :: r by simp]
  exact sub_one inf3 agg3 (by simp [(s.w_p511_len m b S B)]) tsz3 rfl
@[simp high] theorem Sys.w_sub_co1 (s : Sys) (m b S B : V) : sub Try.prog 3 (.agg (s.cw m b S B)) 513 = some (.int .i64 s.co.1) := by
  rw [s.w_at513 m b S B]; exact sub_one (pre := (s.w_p511 m b S B) ++ _) (post := .int .i64 s.co.2 :: _) inf3 agg3 (by simp [(s.w_p511_len m b S B)]) tsz3 rfl
@[simp high] theorem Sys.w_sub_co2 (s : Sys) (m b S B : V) : sub Try.prog 3 (.agg (s.cw m b S B)) 514 = some (.int .i64 s.co.2) := by
  rw [s.w_at513 m b S B, show ∀ (l : List V) (u v : V) (r : List V), l ++ ([u, v] ++ r) = (l ++ [u]) ++ v :: r by simp]
  exact sub_one inf3 agg3 (by simp [(s.w_p511_len m b S B)]) tsz3 rfl
@[simp high] theorem Sys.w_sub_all (s : Sys) (m b S B : V) : sub Try.prog 66 (.agg (s.cw m b S B)) 0 = some (.agg (s.cw m b S B)) := Go.Abs.sub_all inf66 agg66 ((s.cw_len m b S B).trans tsz66.symm)

section
variable {s : Sys} {i : Nat} {p : Pr} {m b S B : V}
theorem w_prs_off {off : Nat} (h : s.ps[i]? = some p) {pre post : List V} {x : V} (hc : p.cells = pre ++ x :: post) (hp : pre.length = off) {t : TypeId} {z : TypeInfo} (hz : Try.prog.info? t = some z) (ha : aggT Try.prog t = some false) (hm : z.size = 1) (hx : x.isAgg = false) :
    sub Try.prog t (.agg (s.cw m b S B)) (110 + i * 29 + off) = some x ∧ sub Try.prog t (.agg (prsC s.ps)) (i * 29 + off) = some x := by
  obtain ⟨h1, h2⟩ := prsC_at h
  have e1 : (s.cw m b S B) = ((s.w_p110 m b S B) ++ (prsC (s.ps.take i) ++ pre)) ++ x :: (post ++ (prsC (s.ps.drop (i + 1)) ++ (s.c3.l ++ s.tail1))) := by rw [s.w_at110 m b S B, h1, hc]; simp
  have e2 : prsC s.ps = (prsC (s.ps.take i) ++ pre) ++ x :: (post ++ prsC (s.ps.drop (i + 1))) := by rw [h1, hc]; simp
  constructor
  · rw [e1]; exact sub_one hz ha (by simp [(s.w_p110_len m b S B), h2, hp]; omega) hm hx
  · rw [e2]; exact sub_one hz ha (by simp [h2, hp]) hm hx
@[simp high] theorem Sys.w_pr_base (h : s.ps[i]? = some p) : sub Try.prog 3 (.agg (s.cw m b S B)) (110 + i * 29 + 13) = some (.int .i64 p.base) := (w_prs_off h p.cells_base p.pre_base inf3 agg3 tsz3 rfl).1
@[simp high] theorem Sys.w_pr_blk (h : s.ps[i]? = some p) : sub Try.prog 3 (.agg (s.cw m b S B)) (110 + i * 29 + 14) = some (.int .i64 p.blk) := (w_prs_off h p.cells_blk p.pre_blk inf3 agg3 tsz3 rfl).1
@[simp high] theorem Sys.w_pr_swd (h : s.ps[i]? = some p) : sub Try.prog 4 (.agg (s.cw m b S B)) (110 + i * 29 + 15) = some (.bool p.swd) := (w_prs_off h p.cells_swd p.pre_swd inf4 agg4 tsz4 rfl).1
@[simp high] theorem Sys.w_pr_all (h : s.ps[i]? = some p) : sub Try.prog 56 (.agg (s.cw m b S B)) (110 + i * 29) = some (.agg p.cells) := by
  obtain ⟨h1, h2⟩ := prsC_at h
  have e1 : (s.cw m b S B) = ((s.w_p110 m b S B) ++ prsC (s.ps.take i)) ++ (p.cells ++ (prsC (s.ps.drop (i + 1)) ++ (s.c3.l ++ s.tail1))) := by rw [s.w_at110 m b S B, h1]; simp
  rw [e1]; exact sub_agg inf56 agg56 (by simp [(s.w_p110_len m b S B), h2]) (p.cells_len.trans tsz56.symm)
end


/-- A system with another process. -/
def Sys.setP (s : Sys) (i : Nat) (p : Pr) : Sys := { s with ps := s.ps.set i p, hps := by simp [s.hps] }
@[simp] theorem Sys.setP_ps (s : Sys) (i : Nat) (p : Pr) : (s.setP i p).ps = s.ps.set i p := rfl
section
variable {s : Sys} {i : Nat} {p : Pr} {m b S B : V}
@[simp high] theorem w_set_mem {x : V} (hx : NoAgg x) : setSub (.agg (s.cw m b S B)) 10 x = some (.agg (s.cw x b S B)) := by
  rw [s.w_at10 m b S B, s.w_at10 x b S B]; exact setSub_one s.c0.len hx
@[simp high] theorem w_set_bad {x : V} (hx : NoAgg x) : setSub (.agg (s.cw m b S B)) 11 x = some (.agg (s.cw m x S B)) := by
  rw [s.w_at11 m b S B, s.w_at11 m x S B]; exact setSub_one (s.w_p11_len m b S B) hx
@[simp high] theorem w_set_drive (x y : V) : setSub (.agg (s.cw m b S B)) 84 (.agg [x, y]) = some (.agg (s.cw m b x y)) := by
  rw [s.w_at84 m b S B, s.w_at84 m b x y]; exact setSub_agg (s.w_p84_len m b S B) rfl
theorem w_setP {q : Pr} (hi : i < s.ps.length) : (s.setP i q).cw m b S B = (s.w_p110 m b S B ++ prsC (s.ps.take i)) ++ (q.cells ++ (prsC (s.ps.drop (i + 1)) ++ (s.c3.l ++ s.tail1))) := by
  have h1 := (s.setP i q).w_at110 m b S B
  rw [Sys.setP_ps, prsC_set hi] at h1
  rw [h1]
  simp [Sys.setP, Sys.w_p110, Sys.tail1]
theorem w_set_one {off : Nat} (h : s.ps[i]? = some p) {q : Pr} {pre post : List V} {x y : V} (hc : p.cells = pre ++ x :: post) (hq : q.cells = pre ++ y :: post) (hp : pre.length = off) (hx : y.isAgg = false) : setSub (.agg (s.cw m b S B)) (110 + i * 29 + off) y = some (.agg ((s.setP i q).cw m b S B)) := by
  obtain ⟨h1, h2⟩ := prsC_at h
  have hi := (List.getElem?_eq_some_iff.1 h).1
  have e1 : (s.cw m b S B) = ((s.w_p110 m b S B) ++ (prsC (s.ps.take i) ++ pre)) ++ x :: (post ++ (prsC (s.ps.drop (i + 1)) ++ (s.c3.l ++ s.tail1))) := by rw [s.w_at110 m b S B, h1, hc]; simp
  have e2 : (s.setP i q).cw m b S B = ((s.w_p110 m b S B) ++ (prsC (s.ps.take i) ++ pre)) ++ y :: (post ++ (prsC (s.ps.drop (i + 1)) ++ (s.c3.l ++ s.tail1))) := by rw [w_setP hi, hq]; simp
  rw [e1, e2]
  exact setSub_one (by simp [(s.w_p110_len m b S B), h2, hp]; omega) hx
@[simp high] theorem w_set_base (h : s.ps[i]? = some p) (v : Int) : setSub (.agg (s.cw m b S B)) (110 + i * 29 + 13) (.int .i64 v) = some (.agg ((s.setP i { p with base := v }).cw m b S B)) :=
  w_set_one h p.cells_base (Pr.cells_base { p with base := v }) p.pre_base rfl
@[simp high] theorem w_set_swd (h : s.ps[i]? = some p) (v : Bool) : setSub (.agg (s.cw m b S B)) (110 + i * 29 + 15) (.bool v) = some (.agg ((s.setP i { p with swd := v }).cw m b S B)) :=
  w_set_one h p.cells_swd (Pr.cells_swd { p with swd := v }) p.pre_swd rfl
theorem setSub_all {xs ys : List V} (h : ys.length = xs.length) : setSub (.agg xs) 0 (.agg ys) = some (.agg ys) := by
  have := setSub_agg (pre := []) (mid := xs) (mid' := ys) (post := []) (off := 0) rfl h
  simpa using this
@[simp high] theorem z_set_all (a b' c d e f g : V) : setSub (.agg (zO a b' c d e f g)) 0 (.agg (s.cw m b S B)) = some (.agg (s.cw m b S B)) := setSub_all (by simp)
@[simp high] theorem z_set_zero (a b' c d e f g a1 b1 c1 d1 e1 f1 g1 : V) : setSub (.agg (zO a b' c d e f g)) 0 (.agg (zO a1 b1 c1 d1 e1 f1 g1)) = some (.agg (zO a1 b1 c1 d1 e1 f1 g1)) := setSub_all (by simp)
@[simp high] theorem z_sub_all (a b' c d e f g : V) : sub Try.prog 66 (.agg (zO a b' c d e f g)) 0 = some (.agg (zO a b' c d e f g)) := Go.Abs.sub_all inf66 agg66 ((zO_len a b' c d e f g).trans tsz66.symm)
end

def imgB (ps : List Pr) (k : Int) (f : Bool) : Bool := if 0 ≤ k then match ps[k.toNat]? with
    | some p => decide (hasP p) && (p.swd == f)
    | none => false
  else false
theorem imgB_iff {ps : List Pr} {k : Int} {f : Bool} : imgB ps k f = true ↔ ∃ i : Nat, ∃ p, k = i ∧ ps[i]? = some p ∧ hasP p ∧ p.swd = f := by
  unfold imgB
  constructor
  · intro h
    split at h
    · split at h
      · rename_i h0 p hp
        simp only [Bool.and_eq_true, decide_eq_true_eq, beq_iff_eq] at h
        exact ⟨k.toNat, p, by omega, hp, h.1, h.2⟩
      · cases h
    · cases h
  · rintro ⟨i, p, rfl, h1, h2, h3⟩
    rw [if_pos (by omega), show (i : Int).toNat = i by omega, h1]
    simp [h2, h3]
theorem swImage_eq (s : Sys) (k : Int) (f : Bool) : bodyW DC 46 [.agg s.cells, .int .i64 k, .bool f] [] = some (.bool (imgB s.ps k f), []) := by
  have hps := s.hps
  unfold imgB
  by_cases h1 : 0 ≤ k ∧ k < 8
  · obtain ⟨i, rfl⟩ := Int.eq_ofNat_of_zero_le h1.1
    have hi : i < s.ps.length := by omega
    have g2 : s.ps[i]? = some s.ps[i] := List.getElem?_eq_getElem hi
    have g1 : (i : Int) < 8 := h1.2
    have g3 : i < 8 := by omega
    have v := hasImage_eq s.ps[i]
    rw [if_pos h1.1, show (i : Int).toNat = i by omega, g2]
    simp only
    by_cases c1 : hasP s.ps[i]
    · rw [decide_eq_true c1] at v ⊢
      (refine gives_iff ?_; refine go_func Try.f46 rfl rfl (by simp [Try.f46]) ?_; dsimp only [codeL, Try.f46, scL, sopsL, guardL, dstAt, loopKey])
      (repeat (first
    | (apply is_ok; (case hw => simp [g1, g2, g3, v]); (case he => simp [g1, g2, g3, v]; exact is_rfl))
    | (apply op_no; (case hw => simp [g1, g2, g3, v]))
    | refine op_nil ?_ | refine next_normal ?_ | refine go_seq ?_ | refine go_region ?_ | refine go_skip ?_ | refine go_block ?_ | refine inb_normal ?_
    | (apply go_yes; (case hc => simp [g1, g2, g3, v])) | (apply go_no; (case hc => simp [g1, g2, g3, v]))
    | refine go_exit ?_ | refine next_exit ?_ | refine inb_here ?_ | refine inb_past (by decide) ?_ | refine go_ret ?_ | refine next_ret ?_ | refine inb_ret ?_))
      (apply ends_ok; (case h1 => simp; exact is_rfl); (case h2 => simp; exact is_rfl))
      simp
    · rw [decide_eq_false c1] at v ⊢
      (refine gives_iff ?_; refine go_func Try.f46 rfl rfl (by simp [Try.f46]) ?_; dsimp only [codeL, Try.f46, scL, sopsL, guardL, dstAt, loopKey])
      (repeat (first
    | (apply is_ok; (case hw => simp [g1, g2, g3, v]); (case he => simp [g1, g2, g3, v]; exact is_rfl))
    | (apply op_no; (case hw => simp [g1, g2, g3, v]))
    | refine op_nil ?_ | refine next_normal ?_ | refine go_seq ?_ | refine go_region ?_ | refine go_skip ?_ | refine go_block ?_ | refine inb_normal ?_
    | (apply go_yes; (case hc => simp [g1, g2, g3, v])) | (apply go_no; (case hc => simp [g1, g2, g3, v]))
    | refine go_exit ?_ | refine next_exit ?_ | refine inb_here ?_ | refine inb_past (by decide) ?_ | refine go_ret ?_ | refine next_ret ?_ | refine inb_ret ?_))
      (apply ends_ok; (case h1 => simp; exact is_rfl); (case h2 => simp; exact is_rfl))
      simp
  · by_cases c0 : 0 ≤ k
    · have c1 : ¬ k < 8 := fun h => h1 ⟨c0, h⟩
      have c2 : s.ps[k.toNat]? = none := by rw [List.getElem?_eq_none_iff]; omega
      rw [if_pos c0, c2]
      (refine gives_iff ?_; refine go_func Try.f46 rfl rfl (by simp [Try.f46]) ?_; dsimp only [codeL, Try.f46, scL, sopsL, guardL, dstAt, loopKey])
      (repeat (first
    | (apply is_ok; (case hw => simp [c0, c1]); (case he => simp [c0, c1]; exact is_rfl))
    | (apply op_no; (case hw => simp [c0, c1]))
    | refine op_nil ?_ | refine next_normal ?_ | refine go_seq ?_ | refine go_region ?_ | refine go_skip ?_ | refine go_block ?_ | refine inb_normal ?_
    | (apply go_yes; (case hc => simp [c0, c1])) | (apply go_no; (case hc => simp [c0, c1]))
    | refine go_exit ?_ | refine next_exit ?_ | refine inb_here ?_ | refine inb_past (by decide) ?_ | refine go_ret ?_ | refine next_ret ?_ | refine inb_ret ?_))
      (apply ends_ok; (case h1 => simp; exact is_rfl); (case h2 => simp; exact is_rfl))
      simp
    · rw [if_neg c0]
      (refine gives_iff ?_; refine go_func Try.f46 rfl rfl (by simp [Try.f46]) ?_; dsimp only [codeL, Try.f46, scL, sopsL, guardL, dstAt, loopKey])
      (repeat (first
    | (apply is_ok; (case hw => simp [c0]); (case he => simp [c0]; exact is_rfl))
    | (apply op_no; (case hw => simp [c0]))
    | refine op_nil ?_ | refine next_normal ?_ | refine go_seq ?_ | refine go_region ?_ | refine go_skip ?_ | refine go_block ?_ | refine inb_normal ?_
    | (apply go_yes; (case hc => simp [c0])) | (apply go_no; (case hc => simp [c0]))
    | refine go_exit ?_ | refine next_exit ?_ | refine inb_here ?_ | refine inb_past (by decide) ?_ | refine go_ret ?_ | refine next_ret ?_ | refine inb_ret ?_))
      (apply ends_ok; (case h1 => simp; exact is_rfl); (case h2 => simp; exact is_rfl))
      simp
end Go.Abs

namespace Go.Abs
open Go.Proofs
set_option maxRecDepth 100000
set_option linter.unusedSimpArgs false
set_option linter.unusedVariables false

/-- A byte of a memory of words. -/
def byteAt (mem : List Int) (k : Nat) : UInt8 := UInt8.ofNat ((mem.getD (k / 2) 0).fdiv (2 ^ (k % 2 * 8)) % 256).toNat
def bytesL (mem : List Int) (a n : Nat) : List UInt8 := (List.range n).map fun i => byteAt mem (a + i)
@[simp] theorem bytesL_len (mem : List Int) (a n : Nat) : (bytesL mem a n).length = n := by simp [bytesL]
theorem bytesL_succ (mem : List Int) (a n : Nat) : bytesL mem a (n + 1) = bytesL mem a n ++ [byteAt mem (a + n)] := by simp [bytesL, List.range_succ]
theorem u8s_append (a b : List UInt8) : u8s (a ++ b) = u8s a ++ u8s b := by simp [u8s]
@[simp] theorem u8s_len (s : List UInt8) : (u8s s).length = s.length := by simp [u8s]
theorem wrap_u8 (x : Int) : IntKind.u8.wrap x = ((UInt8.ofNat (x % 256).toNat).toNat : Int) := by
  have : IntKind.u8.wrap x = x % 256 := by simp [IntKind.wrap, IntKind.bits, IntKind.signed]
  rw [this]
  simp
  omega
theorem set_fill {z v : V} {L : List V} {i n : Nat} (hL : L.length = i) (hi : i < n) : (L ++ List.replicate (n - i) z).set i v = (L ++ [v]) ++ List.replicate (n - (i + 1)) z := by
  subst hL
  rw [List.set_append_right _ _ (Nat.le_refl _), Nat.sub_self, show n - L.length = (n - (L.length + 1)) + 1 by omega, List.replicate_succ]
  simp

theorem within_ok (mem : List Int) (hm : mem.length ≤ 1000000) (a n : Nat) (h : a + n ≤ 2 * mem.length) : bodyW DC 67 [.sl (ints mem), .int .i64 a, .int .i64 n] [] = some (.bool true, []) := by
  have w1 : IntKind.i64.wrap (2 * (mem.length : Int)) = 2 * (mem.length : Int) := wrap_id (by omega) (by omega)
  have w2 : IntKind.i64.wrap (2 * (mem.length : Int) - a) = 2 * (mem.length : Int) - a := wrap_id (by omega) (by omega)
  have c1 : (a : Int) ≤ 2 * (mem.length : Int) := by omega
  have c2 : (n : Int) ≤ 2 * (mem.length : Int) - a := by omega
  (refine gives_iff ?_; refine go_func Try.f67 rfl rfl (by simp [Try.f67]) ?_; dsimp only [codeL, Try.f67, scL, sopsL, guardL, dstAt, loopKey])
  (repeat (first
    | (apply is_ok; (case hw => simp [w1, w2, c1, c2]); (case he => simp [w1, w2, c1, c2]; exact is_rfl))
    | (apply op_no; (case hw => simp [w1, w2, c1, c2]))
    | refine op_nil ?_ | refine next_normal ?_ | refine go_seq ?_ | refine go_region ?_ | refine go_skip ?_ | refine go_block ?_ | refine inb_normal ?_
    | (apply go_yes; (case hc => simp [w1, w2, c1, c2])) | (apply go_no; (case hc => simp [w1, w2, c1, c2]))
    | refine go_exit ?_ | refine next_exit ?_ | refine inb_here ?_ | refine inb_past (by decide) ?_ | refine go_ret ?_ | refine next_ret ?_ | refine inb_ret ?_))
  (apply ends_ok; (case h1 => simp; exact is_rfl); (case h2 => simp; exact is_rfl))
  simp

theorem mBytes_eq (mem : List Int) (hm : mem.length ≤ 1000000) (a n : Nat) (h : a + n ≤ 2 * mem.length) : bodyW DC 47 [.sl (ints mem), .int .i64 a, .int .i64 n] [] = some (.tuple [.str (bytesL mem a n), .int .i64 0], []) := by
  have v1 := within_ok mem hm a n h
  have r1 : n ≤ room := by unfold room; omega
  (refine gives_iff ?_; refine go_func Try.f47 rfl rfl (by simp [Try.f47]) ?_; dsimp only [codeL, Try.f47, scL, sopsL, guardL, dstAt, loopKey])
  (repeat (first
    | (apply is_ok; (case hw => simp [v1, r1]); (case he => simp [v1, r1]; exact is_rfl))
    | (apply op_no; (case hw => simp [v1, r1]))
    | refine op_nil ?_ | refine next_normal ?_ | refine go_seq ?_ | refine go_region ?_ | refine go_skip ?_ | refine go_block ?_ | refine inb_normal ?_
    | (apply go_yes; (case hc => simp [v1, r1])) | (apply go_no; (case hc => simp [v1, r1]))
    | refine go_exit ?_ | refine next_exit ?_ | refine inb_here ?_ | refine inb_past (by decide) ?_ | refine go_ret ?_ | refine next_ret ?_ | refine inb_ret ?_))
  refine go_count n (fun i => [(0, .sl (ints mem)), (1, .int .i64 a), (8, .own 0 n 0 n), (19, .int .i64 n), (20, .int .i64 i)]) (fun i => [.dat true 1 (u8s (bytesL mem a i) ++ List.replicate (n - i) (.int .u8 0))]) (fun _ => True) (by simp [bytesL, u8s, ofVal]) trivial fun i hi _ => ?_
  by_cases hlt : i < n
  · have g1 : (i : Int) < n := by omega
    have w1 : IntKind.i64.wrap ((i : Int) + 1) = (i : Int) + 1 := wrap_id (by omega) (by omega)
    have g3 : i + (n - i) = n := by omega
    have gb : i < n := hlt
    obtain ⟨A, hA⟩ : ∃ A, A = a + i := ⟨_, rfl⟩
    have w2 : IntKind.i64.wrap ((a : Int) + i) = (A : Int) := by rw [hA, wrap_id (by omega) (by omega)]; omega
    obtain ⟨w, hw⟩ : ∃ w, w = A / 2 := ⟨_, rfl⟩
    have q1 : (A : Int).tdiv 2 = (w : Int) := by rw [Int.tdiv_eq_ediv_of_nonneg (by omega)]; omega
    have q3 : IntKind.i64.wrap (w : Int) = (w : Int) := wrap_id (by omega) (by omega)
    have z0 : IntKind.i64.wrap 0 = 0 := rfl
    have z8 : IntKind.i64.wrap 8 = 8 := rfl
    have mb : min 8 IntKind.i64.bits = 8 := rfl
    have hwl : w < mem.length := by omega
    have g2 : mem[w]? = some mem[w] := List.getElem?_eq_getElem hwl
    have ex : ∃ e, (u8s (bytesL mem a i) ++ List.replicate (n - i) (V.int .u8 0))[i]? = some (V.int .u8 e) := by
      exact ⟨0, by rw [List.getElem?_append_right (by simp), List.getElem?_replicate, if_pos (by simp; omega)]⟩
    obtain ⟨e0, he0⟩ := ex
    have hl : (u8s (bytesL mem a i)).length = i := by simp
    have hb : byteAt mem (a + i) = UInt8.ofNat (mem[w].fdiv (2 ^ (A % 2 * 8)) % 256).toNat := by
      unfold byteAt
      rw [← hA, ← hw, List.getD_eq_getElem?_getD, g2]
      rfl
    have hset := fun v => set_fill (z := V.int .u8 0) (v := v) hl hlt
    rcases Nat.mod_two_eq_zero_or_one A with h0 | h0
    · have q2 : (A : Int).tmod 2 = 0 := by rw [Int.tmod_eq_emod_of_nonneg (by omega)]; omega
      rw [h0] at hb
      have hb2 : IntKind.u8.wrap (mem[w]) = ((byteAt mem (a + i)).toNat : Int) := by rw [wrap_u8, hb]; simp
      rw [show n - (i + 1) = n - (i + 1) from rfl] at hset
      (repeat (first
    | (apply is_ok; (case hw => simp [g1, g2, g3, hlt, w1, w2, q1, q2, q3, z0, z8, hwl, he0, hset, shiftOp, mb, hb2]); (case he => simp [g1, g2, g3, hlt, w1, w2, q1, q2, q3, z0, z8, hwl, he0, hset, shiftOp, mb, hb2]; exact is_rfl))
    | (apply op_no; (case hw => simp [g1, g2, g3, hlt, w1, w2, q1, q2, q3, z0, z8, hwl, he0, hset, shiftOp, mb, hb2]))
    | refine op_nil ?_ | refine next_normal ?_ | refine go_seq ?_ | refine go_region ?_ | refine go_skip ?_ | refine go_block ?_ | refine inb_normal ?_
    | (apply go_yes; (case hc => simp [g1, g2, g3, hlt, w1, w2, q1, q2, q3, z0, z8, hwl, he0, hset, shiftOp, mb, hb2])) | (apply go_no; (case hc => simp [g1, g2, g3, hlt, w1, w2, q1, q2, q3, z0, z8, hwl, he0, hset, shiftOp, mb, hb2]))
    | refine go_exit ?_ | refine next_exit ?_ | refine inb_here ?_ | refine inb_past (by decide) ?_ | refine go_ret ?_ | refine next_ret ?_ | refine inb_ret ?_))
      exact ⟨hlt, by simp [w1, bytesL_succ, u8s_append, u8s], trivial⟩
    · have q2 : (A : Int).tmod 2 = 1 := by rw [Int.tmod_eq_emod_of_nonneg (by omega)]; omega
      rw [h0] at hb
      have hb2 : IntKind.u8.wrap (mem[w].fdiv 256) = ((byteAt mem (a + i)).toNat : Int) := by rw [wrap_u8, hb]; simp
      rw [show n - (i + 1) = n - (i + 1) from rfl] at hset
      (repeat (first
    | (apply is_ok; (case hw => simp [g1, g2, g3, hlt, w1, w2, q1, q2, q3, z0, z8, hwl, he0, hset, shiftOp, mb, hb2]); (case he => simp [g1, g2, g3, hlt, w1, w2, q1, q2, q3, z0, z8, hwl, he0, hset, shiftOp, mb, hb2]; exact is_rfl))
    | (apply op_no; (case hw => simp [g1, g2, g3, hlt, w1, w2, q1, q2, q3, z0, z8, hwl, he0, hset, shiftOp, mb, hb2]))
    | refine op_nil ?_ | refine next_normal ?_ | refine go_seq ?_ | refine go_region ?_ | refine go_skip ?_ | refine go_block ?_ | refine inb_normal ?_
    | (apply go_yes; (case hc => simp [g1, g2, g3, hlt, w1, w2, q1, q2, q3, z0, z8, hwl, he0, hset, shiftOp, mb, hb2])) | (apply go_no; (case hc => simp [g1, g2, g3, hlt, w1, w2, q1, q2, q3, z0, z8, hwl, he0, hset, shiftOp, mb, hb2]))
    | refine go_exit ?_ | refine next_exit ?_ | refine inb_here ?_ | refine inb_past (by decide) ?_ | refine go_ret ?_ | refine next_ret ?_ | refine inb_ret ?_))
      exact ⟨hlt, by simp [w1, bytesL_succ, u8s_append, u8s], trivial⟩
  · have : i = n := by omega
    subst this
    (repeat (first
    | (apply is_ok; (case hw => simp); (case he => simp; exact is_rfl))
    | (apply op_no; (case hw => simp))
    | refine op_nil ?_ | refine next_normal ?_ | refine go_seq ?_ | refine go_region ?_ | refine go_skip ?_ | refine go_block ?_ | refine inb_normal ?_
    | (apply go_yes; (case hc => simp)) | (apply go_no; (case hc => simp))
    | refine go_exit ?_ | refine next_exit ?_ | refine inb_here ?_ | refine inb_past (by decide) ?_ | refine go_ret ?_ | refine next_ret ?_ | refine inb_ret ?_))
    (apply ends_ok; (case h1 => simp; exact is_rfl); (case h2 => simp; exact is_rfl))
    simp

/-- A word with another byte. -/
def updB (w : Int) (h : Nat) (b : UInt8) : Int := if h = 0 then w - w % 256 + b.toNat else w % 256 + 256 * b.toNat
theorem updB_range {w : Int} (h : Nat) (b : UInt8) (hw : 0 ≤ w ∧ w ≤ 65535) : 0 ≤ updB w h b ∧ updB w h b ≤ 65535 := by
  have := b.toNat_lt
  unfold updB
  split <;> omega

theorem nat_andnot (W m k : Nat) (hW : W < 2 ^ 64) (hk : m < 2 ^ 64) : (BitVec.ofInt 64 (W : Int) &&& ~~~ BitVec.ofInt 64 (m : Int)).toNat = W &&& (2 ^ 64 - (m + 1)) := by
  rw [BitVec.toNat_and, BitVec.toNat_not, BitVec.toNat_ofInt, BitVec.toNat_ofInt]
  congr 1
  · omega
  · omega
theorem land_hi (W : Nat) (hW : W < 2 ^ 64) : W &&& (2 ^ 64 - (255 + 1)) = 2 ^ 8 * (W / 256) := by
  apply Nat.eq_of_testBit_eq
  intro i
  rw [Nat.testBit_and, Nat.testBit_two_pow_sub_succ (by decide), show (255 : Nat) = 2 ^ 8 - 1 from rfl, Nat.testBit_two_pow_sub_one, Nat.testBit_two_pow_mul, show (256 : Nat) = 2 ^ 8 from rfl, Nat.testBit_div_two_pow]
  by_cases h : i < 8
  · have h' : ¬ 8 ≤ i := by omega
    simp [h, h']
  · have e : i - 8 + 8 = i := by omega
    by_cases h2 : i < 64
    · simp [h, h2, e]
      omega
    · have : W.testBit i = false := Nat.testBit_lt_two_pow (Nat.lt_of_lt_of_le hW (Nat.pow_le_pow_right (by decide) (by omega)))
      simp [this, e]
theorem land_lo (W : Nat) (hW : W < 2 ^ 16) : W &&& (2 ^ 64 - (65280 + 1)) = W % 256 := by
  apply Nat.eq_of_testBit_eq
  intro i
  rw [Nat.testBit_and, Nat.testBit_two_pow_sub_succ (by decide), show (256 : Nat) = 2 ^ 8 from rfl, Nat.testBit_mod_two_pow]
  have e : (65280 : Nat) = 2 ^ 8 * (2 ^ 8 - 1) := by decide
  rw [e, Nat.testBit_two_pow_mul, Nat.testBit_two_pow_sub_one]
  by_cases h : i < 8
  · have : ¬ 8 ≤ i := by omega
    simp [h, this]
    omega
  · by_cases h2 : i < 16
    · have h3 : 8 ≤ i := by omega
      have h4 : i - 8 < 8 := by omega
      simp [h, h3, h4]
    · have : W.testBit i = false := Nat.testBit_lt_two_pow (Nat.lt_of_lt_of_le hW (Nat.pow_le_pow_right (by decide) (by omega)))
      simp [this]
theorem i64_small {n : Nat} (h : n < 9223372036854775808) : IntKind.i64.wrap (n : Int) = n := wrap_id (by omega) (by omega)

/-- The two steps that put a byte into a word. -/
theorem put_lo (w : Int) (b : UInt8) (hw : 0 ≤ w ∧ w ≤ 65535) : intOp .andNot .i64 w 255 = some (.int .i64 (w - w % 256)) ∧ intOp .or .i64 (w - w % 256) (b.toNat : Int) = some (.int .i64 (updB w 0 b)) := by
  obtain ⟨W, rfl⟩ := Int.eq_ofNat_of_zero_le hw.1
  have hb := b.toNat_lt
  have e1 := (nat_andnot W 255 0 (by omega) (by decide)).trans (land_hi W (by omega))
  constructor
  · show some (V.int .i64 (IntKind.i64.wrap ((BitVec.ofInt 64 (W : Int) &&& ~~~ BitVec.ofInt 64 ((255 : Nat) : Int)).toNat : Int))) = _
    rw [e1, i64_small (by omega)]
    congr 2
    omega
  · show some (V.int .i64 (IntKind.i64.wrap ((BitVec.ofInt 64 ((W : Int) - W % 256) ||| BitVec.ofInt 64 (b.toNat : Int)).toNat : Int))) = _
    rw [show ((W : Int) - W % 256) = ((2 ^ 8 * (W / 256) : Nat) : Int) by omega, BitVec.toNat_or, BitVec.toNat_ofInt, BitVec.toNat_ofInt]
    rw [show (((2 ^ 8 * (W / 256) : Nat) : Int) % ((2 ^ 64 : Nat) : Int)).toNat = 2 ^ 8 * (W / 256) by omega, show ((b.toNat : Int) % ((2 ^ 64 : Nat) : Int)).toNat = b.toNat by omega]
    rw [← Nat.two_pow_add_eq_or_of_lt (by omega), i64_small (by omega)]
    congr 2
    unfold updB
    rw [if_pos rfl]
    omega
theorem put_hi (w : Int) (b : UInt8) (hw : 0 ≤ w ∧ w ≤ 65535) : intOp .andNot .i64 w 65280 = some (.int .i64 (w % 256)) ∧ intOp .or .i64 (w % 256) ((b.toNat : Int) * 256) = some (.int .i64 (updB w 1 b)) := by
  obtain ⟨W, rfl⟩ := Int.eq_ofNat_of_zero_le hw.1
  have hb := b.toNat_lt
  have e1 := (nat_andnot W 65280 0 (by omega) (by decide)).trans (land_lo W (by omega))
  constructor
  · show some (V.int .i64 (IntKind.i64.wrap ((BitVec.ofInt 64 (W : Int) &&& ~~~ BitVec.ofInt 64 ((65280 : Nat) : Int)).toNat : Int))) = _
    rw [e1, i64_small (by omega)]
    congr 2
  · show some (V.int .i64 (IntKind.i64.wrap ((BitVec.ofInt 64 ((W : Int) % 256) ||| BitVec.ofInt 64 ((b.toNat : Int) * 256)).toNat : Int))) = _
    rw [show ((W : Int) % 256) = ((W % 256 : Nat) : Int) by omega, show ((b.toNat : Int) * 256) = ((2 ^ 8 * b.toNat : Nat) : Int) by omega, BitVec.toNat_or, BitVec.toNat_ofInt, BitVec.toNat_ofInt]
    rw [show (((W % 256 : Nat) : Int) % ((2 ^ 64 : Nat) : Int)).toNat = W % 256 by omega, show (((2 ^ 8 * b.toNat : Nat) : Int) % ((2 ^ 64 : Nat) : Int)).toNat = 2 ^ 8 * b.toNat by omega]
    rw [Nat.or_comm, ← Nat.two_pow_add_eq_or_of_lt (by omega), i64_small (by omega)]
    congr 2
    unfold updB
    rw [if_neg (by decide)]
    omega

def setByte (mem : List Int) (k : Nat) (b : UInt8) : List Int := mem.set (k / 2) (updB (mem.getD (k / 2) 0) (k % 2) b)
def storeN (mem : List Int) (a : Nat) (s : List UInt8) : Nat → List Int
  | 0 => mem
  | i + 1 => setByte (storeN mem a s i) (a + i) (s.getD i 0)
@[simp] theorem setByte_len (mem : List Int) (k : Nat) (b : UInt8) : (setByte mem k b).length = mem.length := by simp [setByte]
@[simp] theorem storeN_len (mem : List Int) (a : Nat) (s : List UInt8) (i : Nat) : (storeN mem a s i).length = mem.length := by
  induction i with
  | zero => rfl
  | succ i ih => simp [storeN, ih]
def Words (mem : List Int) : Prop := ∀ w ∈ mem, 0 ≤ w ∧ w ≤ 65535
theorem getD_words {mem : List Int} (h : Words mem) (i : Nat) : 0 ≤ mem.getD i 0 ∧ mem.getD i 0 ≤ 65535 := by
  rw [List.getD_eq_getElem?_getD]
  cases hc : mem[i]? with
  | none => simp
  | some w => exact h w (List.mem_of_getElem? hc)
theorem setByte_words {mem : List Int} (h : Words mem) (k : Nat) (b : UInt8) : Words (setByte mem k b) := by
  intro w hw
  rcases List.mem_or_eq_of_mem_set hw with h1 | rfl
  · exact h w h1
  · exact updB_range _ _ (getD_words h _)
theorem storeN_words {mem : List Int} (h : Words mem) (a : Nat) (s : List UInt8) : ∀ i, Words (storeN mem a s i)
  | 0 => h
  | i + 1 => setByte_words (storeN_words h a s i) _ _

theorem mcopied_eq (mem : List Int) (hm : mem.length ≤ 1000000) : bodyW DC 72 [.sl (ints mem)] [] = some (.own 0 mem.length 0 mem.length, [.dat true 1 (ints mem)]) := by
  have r1 : mem.length ≤ room := by unfold room; omega
  have r2 : mem.length * 8 ≤ room := by unfold room; omega
  (refine gives_iff ?_; refine go_func Try.f72 rfl rfl (by simp [Try.f72]) ?_; dsimp only [codeL, Try.f72, scL, sopsL, guardL, dstAt, loopKey])
  (repeat (first
    | (apply is_ok; (case hw => simp [r1, r2]); (case he => simp [r1, r2]; exact is_rfl))
    | (apply op_no; (case hw => simp [r1, r2]))
    | refine op_nil ?_ | refine next_normal ?_ | refine go_seq ?_ | refine go_region ?_ | refine go_skip ?_ | refine go_block ?_ | refine inb_normal ?_
    | (apply go_yes; (case hc => simp [r1, r2])) | (apply go_no; (case hc => simp [r1, r2]))
    | refine go_exit ?_ | refine next_exit ?_ | refine inb_here ?_ | refine inb_past (by decide) ?_ | refine go_ret ?_ | refine next_ret ?_ | refine inb_ret ?_))
  (apply ends_ok; (case h1 => simp; exact is_rfl); (case h2 => simp; exact is_rfl))
  simp
  exact List.take_of_length_le (by simp)

theorem Store_eq (mem : List Int) (hm : mem.length ≤ 1000000) (hw : Words mem) (a : Nat) (s : List UInt8) (h : a + s.length ≤ 2 * mem.length) : bodyW DC 50 [.sl (ints mem), .int .i64 a, .str s] [] = some (.tuple [.own 0 mem.length 0 mem.length, .int .i64 0], [.dat true 1 (ints (storeN mem a s s.length))]) := by
  have v1 := within_ok mem hm a s.length h
  have v2 := mcopied_eq mem hm
  (refine gives_iff ?_; refine go_func Try.f50 rfl rfl (by simp [Try.f50]) ?_; dsimp only [codeL, Try.f50, scL, sopsL, guardL, dstAt, loopKey])
  (repeat (first
    | (apply is_ok; (case hw => simp [v1, v2]); (case he => simp [v1, v2]; exact is_rfl))
    | (apply op_no; (case hw => simp [v1, v2]))
    | refine op_nil ?_ | refine next_normal ?_ | refine go_seq ?_ | refine go_region ?_ | refine go_skip ?_ | refine go_block ?_ | refine inb_normal ?_
    | (apply go_yes; (case hc => simp [v1, v2])) | (apply go_no; (case hc => simp [v1, v2]))
    | refine go_exit ?_ | refine next_exit ?_ | refine inb_here ?_ | refine inb_past (by decide) ?_ | refine go_ret ?_ | refine next_ret ?_ | refine inb_ret ?_))
  refine go_count s.length (fun i => [(1, .int .i64 a), (2, .str s), (8, .own 0 mem.length 0 mem.length), (21, .int .i64 s.length), (22, .int .i64 i)]) (fun i => [.dat true 1 (ints (storeN mem a s i))]) (fun _ => True) (by simp [storeN]) trivial fun i hi _ => ?_
  by_cases hlt : i < s.length
  · have g1 : (i : Int) < s.length := by omega
    have w1 : IntKind.i64.wrap ((i : Int) + 1) = (i : Int) + 1 := wrap_id (by omega) (by omega)
    obtain ⟨A, hA⟩ : ∃ A, A = a + i := ⟨_, rfl⟩
    have w2 : IntKind.i64.wrap ((a : Int) + i) = (A : Int) := by rw [hA, wrap_id (by omega) (by omega)]; omega
    obtain ⟨w, hwd⟩ : ∃ w, w = A / 2 := ⟨_, rfl⟩
    have q1 : (A : Int).tdiv 2 = (w : Int) := by rw [Int.tdiv_eq_ediv_of_nonneg (by omega)]; omega
    have q3 : IntKind.i64.wrap (w : Int) = (w : Int) := wrap_id (by omega) (by omega)
    have z0 : IntKind.i64.wrap 0 = 0 := rfl
    have z8 : IntKind.i64.wrap 8 = 8 := rfl
    have z9 : IntKind.i64.wrap 255 = 255 := rfl
    have za : IntKind.i64.wrap 65280 = 65280 := rfl
    have mb : min 8 IntKind.i64.bits = 8 := rfl
    generalize hM : storeN mem a s i = M
    have hML : M.length = mem.length := by rw [← hM]; simp
    have hMW : Words M := by rw [← hM]; exact storeN_words hw a s i
    have hwl : w < M.length := by omega
    have hwl2 : w < mem.length := by omega
    have g2 : M[w]? = some M[w] := List.getElem?_eq_getElem hwl
    have g3 : s[i]? = some s[i] := List.getElem?_eq_getElem hlt
    have bw := hMW _ (List.getElem_mem hwl)
    have hst : storeN mem a s (i + 1) = M.set w (updB M[w] (A % 2) s[i]) := by
      rw [storeN, hM, setByte, ← hA, ← hwd, List.getD_eq_getElem?_getD, List.getD_eq_getElem?_getD, g2, g3]
      rfl
    have p0 := put_lo M[w] s[i] bw
    have p1 := put_hi M[w] s[i] bw
    have k1 : IntKind.i64.wrap (s[i].toNat : Int) = s[i].toNat := i64_small (by have := s[i].toNat_lt; omega)
    have k2 : IntKind.i64.wrap ((s[i].toNat : Int) * 256) = (s[i].toNat : Int) * 256 := wrap_id (by omega) (by have := s[i].toNat_lt; omega)
    rcases Nat.mod_two_eq_zero_or_one A with h0 | h0
    · have q2 : (A : Int).tmod 2 = 0 := by rw [Int.tmod_eq_emod_of_nonneg (by omega)]; omega
      rw [h0] at hst
      (repeat (first
    | (apply is_ok; (case hw => simp [-intOp, p0, g1, g2, g3, hlt, w1, w2, q1, q2, q3, z0, z8, hwl, hwl2, hML, shiftOp, k1, z9]); (case he => simp [-intOp, p0, g1, g2, g3, hlt, w1, w2, q1, q2, q3, z0, z8, hwl, hwl2, hML, shiftOp, k1, z9]; exact is_rfl))
    | (apply op_no; (case hw => simp [-intOp, p0, g1, g2, g3, hlt, w1, w2, q1, q2, q3, z0, z8, hwl, hwl2, hML, shiftOp, k1, z9]))
    | refine op_nil ?_ | refine next_normal ?_ | refine go_seq ?_ | refine go_region ?_ | refine go_skip ?_ | refine go_block ?_ | refine inb_normal ?_
    | (apply go_yes; (case hc => simp [-intOp, p0, g1, g2, g3, hlt, w1, w2, q1, q2, q3, z0, z8, hwl, hwl2, hML, shiftOp, k1, z9])) | (apply go_no; (case hc => simp [-intOp, p0, g1, g2, g3, hlt, w1, w2, q1, q2, q3, z0, z8, hwl, hwl2, hML, shiftOp, k1, z9]))
    | refine go_exit ?_ | refine next_exit ?_ | refine inb_here ?_ | refine inb_past (by decide) ?_ | refine go_ret ?_ | refine next_ret ?_ | refine inb_ret ?_))
      exact ⟨hlt, by simp [w1, hst, List.map_set, hML], trivial⟩
    · have q2 : (A : Int).tmod 2 = 1 := by rw [Int.tmod_eq_emod_of_nonneg (by omega)]; omega
      rw [h0] at hst
      (repeat (first
    | (apply is_ok; (case hw => simp [-intOp, p1, g1, g2, g3, hlt, w1, w2, q1, q2, q3, z0, z8, hwl, hwl2, hML, shiftOp, k1, k2, za, mb]); (case he => simp [-intOp, p1, g1, g2, g3, hlt, w1, w2, q1, q2, q3, z0, z8, hwl, hwl2, hML, shiftOp, k1, k2, za, mb]; exact is_rfl))
    | (apply op_no; (case hw => simp [-intOp, p1, g1, g2, g3, hlt, w1, w2, q1, q2, q3, z0, z8, hwl, hwl2, hML, shiftOp, k1, k2, za, mb]))
    | refine op_nil ?_ | refine next_normal ?_ | refine go_seq ?_ | refine go_region ?_ | refine go_skip ?_ | refine go_block ?_ | refine inb_normal ?_
    | (apply go_yes; (case hc => simp [-intOp, p1, g1, g2, g3, hlt, w1, w2, q1, q2, q3, z0, z8, hwl, hwl2, hML, shiftOp, k1, k2, za, mb])) | (apply go_no; (case hc => simp [-intOp, p1, g1, g2, g3, hlt, w1, w2, q1, q2, q3, z0, z8, hwl, hwl2, hML, shiftOp, k1, k2, za, mb]))
    | refine go_exit ?_ | refine next_exit ?_ | refine inb_here ?_ | refine inb_past (by decide) ?_ | refine go_ret ?_ | refine next_ret ?_ | refine inb_ret ?_))
      exact ⟨hlt, by simp [w1, hst, List.map_set, hML], trivial⟩
  · have : i = s.length := by omega
    subst this
    (repeat (first
    | (apply is_ok; (case hw => simp); (case he => simp; exact is_rfl))
    | (apply op_no; (case hw => simp))
    | refine op_nil ?_ | refine next_normal ?_ | refine go_seq ?_ | refine go_region ?_ | refine go_skip ?_ | refine go_block ?_ | refine inb_normal ?_
    | (apply go_yes; (case hc => simp)) | (apply go_no; (case hc => simp))
    | refine go_exit ?_ | refine next_exit ?_ | refine inb_here ?_ | refine inb_past (by decide) ?_ | refine go_ret ?_ | refine next_ret ?_ | refine inb_ret ?_))
    (apply ends_ok; (case h1 => simp; exact is_rfl); (case h2 => simp; exact is_rfl))
    simp
end Go.Abs

namespace Go.Abs
open Go.Proofs
set_option maxRecDepth 100000
set_option linter.unusedSimpArgs false

def wornK (B : List Int) : List Int := B.foldl (fun ks n => if n ∈ ks then ks else ks ++ [n]) []
theorem wornK_take {B : List Int} {i : Nat} (h : i < B.length) : wornK (B.take (i + 1)) = if B[i] ∈ wornK (B.take i) then wornK (B.take i) else wornK (B.take i) ++ [B[i]] := by
  unfold wornK
  rw [List.take_succ_eq_append_getElem h, List.foldl_append]
  rfl
theorem foldl_mem (k : Int) : ∀ (B ks : List Int), k ∈ B.foldl (fun ks n => if n ∈ ks then ks else ks ++ [n]) ks ↔ k ∈ ks ∨ k ∈ B
  | [], ks => by simp
  | b :: B, ks => by
    rw [List.foldl_cons, foldl_mem k B]
    by_cases h : b ∈ ks
    · rw [if_pos h]
      constructor
      · rintro (h1 | h1)
        · exact .inl h1
        · exact .inr (List.mem_cons_of_mem _ h1)
      · rintro (h1 | h1)
        · exact .inl h1
        · rcases List.mem_cons.1 h1 with rfl | h1
          · exact .inl h
          · exact .inr h1
    · rw [if_neg h]; simp [or_assoc]
theorem mem_worn {k : Int} {B : List Int} : k ∈ wornK B ↔ k ∈ B := by unfold wornK; rw [foldl_mem]; simp

theorem findK_ints (k : Int) (v : V) : ∀ (ks : List Int), findK (.int .i64 k) (ints ks) (List.replicate ks.length v) = some (if k ∈ ks then some v else none)
  | [] => by simp [findK]
  | c :: ks => by
    simp only [List.map_cons, List.length_cons, List.replicate_succ, findK, sameKey]
    by_cases h : k = c
    · subst h; simp
    · have : (k == c) = false := by simpa using h
      simp only [if_true, this]
      rw [findK_ints k v ks]
      simp [h]
theorem findK_worn (k : Int) (v : V) (B : List Int) : findK (.int .i64 k) (ints (wornK B)) (List.replicate (wornK B).length v) = some (if k ∈ B then some v else none) := by
  rw [findK_ints]
  simp only [mem_worn]
theorem setK_ints (k : Int) (v : V) : ∀ (ks : List Int), setK (.int .i64 k) v (ints ks) (List.replicate ks.length v) = List.replicate ks.length v
  | [] => by simp [setK]
  | c :: ks => by
    simp only [List.map_cons, List.length_cons, List.replicate_succ, setK, sameKey]
    by_cases h : k = c
    · subst h; simp
    · have : (k == c) = false := by simpa using h
      simp only [if_true, this]
      rw [setK_ints k v ks]

abbrev wornV (B : List Int) : V := .mapr (ints (wornK B)) (List.replicate (wornK B).length (.bool true))

theorem worn_eq (S : List (List UInt8)) (B : List Int) (hB : B.length ≤ maxLen) : bodyW DC 64 [drv S B] [] = some (.map 0, [.map true (ints (wornK B)) (List.replicate (wornK B).length (.bool true))]) := by
  unfold maxLen at hB
  (refine gives_iff ?_; refine go_func Try.f64 rfl rfl (by simp [Try.f64]) ?_; dsimp only [codeL, Try.f64, scL, sopsL, guardL, dstAt, loopKey])
  (repeat (first
    | (apply is_ok; (case hw => simp); (case he => simp; exact is_rfl))
    | (apply op_no; (case hw => simp))
    | refine op_nil ?_ | refine next_normal ?_ | refine go_seq ?_ | refine go_region ?_ | refine go_skip ?_ | refine go_block ?_ | refine inb_normal ?_
    | (apply go_yes; (case hc => simp)) | (apply go_no; (case hc => simp))
    | refine go_exit ?_ | refine next_exit ?_ | refine inb_here ?_ | refine inb_past (by decide) ?_ | refine go_ret ?_ | refine next_ret ?_ | refine inb_ret ?_))
  refine go_count B.length (fun i => [(3, .map 0), (8, .sl (ints B)), (9, .int .i64 B.length), (10, .int .i64 i)]) (fun i => [.map true (ints (wornK (B.take i))) (List.replicate (wornK (B.take i)).length (.bool true))]) (fun _ => True) (by simp [wornK]) trivial fun i hi _ => ?_
  by_cases hlt : i < B.length
  · have hw : IntKind.i64.wrap ((i : Int) + 1) = (i : Int) + 1 := wrap_id (by omega) (by omega)
    have hf := findK_ints B[i] (.bool true) (wornK (B.take i))
    have hs := setK_ints B[i] (.bool true) (wornK (B.take i))
    by_cases hm : B[i] ∈ wornK (B.take i)
    · rw [if_pos hm] at hf
      (repeat (first
    | (apply is_ok; (case hw => simp [hlt, hf, hs]); (case he => simp [hlt, hf, hs]; exact is_rfl))
    | (apply op_no; (case hw => simp [hlt, hf, hs]))
    | refine op_nil ?_ | refine next_normal ?_ | refine go_seq ?_ | refine go_region ?_ | refine go_skip ?_ | refine go_block ?_ | refine inb_normal ?_
    | (apply go_yes; (case hc => simp [hlt, hf, hs])) | (apply go_no; (case hc => simp [hlt, hf, hs]))
    | refine go_exit ?_ | refine next_exit ?_ | refine inb_here ?_ | refine inb_past (by decide) ?_ | refine go_ret ?_ | refine next_ret ?_ | refine inb_ret ?_))
      exact ⟨hlt, by simp [hw, wornK_take hlt, hm], trivial⟩
    · rw [if_neg hm] at hf
      (repeat (first
    | (apply is_ok; (case hw => simp [hlt, hf, hs]); (case he => simp [hlt, hf, hs]; exact is_rfl))
    | (apply op_no; (case hw => simp [hlt, hf, hs]))
    | refine op_nil ?_ | refine next_normal ?_ | refine go_seq ?_ | refine go_region ?_ | refine go_skip ?_ | refine go_block ?_ | refine inb_normal ?_
    | (apply go_yes; (case hc => simp [hlt, hf, hs])) | (apply go_no; (case hc => simp [hlt, hf, hs]))
    | refine go_exit ?_ | refine next_exit ?_ | refine inb_here ?_ | refine inb_past (by decide) ?_ | refine go_ret ?_ | refine next_ret ?_ | refine inb_ret ?_))
      exact ⟨hlt, by simp [hw, wornK_take hlt, hm, List.replicate_succ'], trivial⟩
  · have : i = B.length := by omega
    subst this
    rw [List.take_length]
    (repeat (first
    | (apply is_ok; (case hw => simp); (case he => simp; exact is_rfl))
    | (apply op_no; (case hw => simp))
    | refine op_nil ?_ | refine next_normal ?_ | refine go_seq ?_ | refine go_region ?_ | refine go_skip ?_ | refine go_block ?_ | refine inb_normal ?_
    | (apply go_yes; (case hc => simp)) | (apply go_no; (case hc => simp))
    | refine go_exit ?_ | refine next_exit ?_ | refine inb_here ?_ | refine inb_past (by decide) ?_ | refine go_ret ?_ | refine next_ret ?_ | refine inb_ret ?_))
    (apply ends_ok; (case h1 => simp; exact is_rfl); (case h2 => simp; exact is_rfl))
    simp

def readS (S : List (List UInt8)) (B : List Int) (k : Int) : List UInt8 × Int := if 0 ≤ k ∧ k < S.length then if k ∈ B then ([], 21) else (S.getD k.toNat [], 0) else ([], 2)

theorem Read_eq (S : List (List UInt8)) (B : List Int) (hB : B.length ≤ maxLen) (k : Int) : bodyW DC 38 [drv S B, .int .i64 k] [] = some (.tuple [.str (readS S B k).1, .int .i64 (readS S B k).2], []) := by
  have hH := has_eq S B k
  have hW := worn_eq S B hB
  have hf := findK_worn k (.bool true) B
  unfold readS
  (refine gives_iff ?_; refine go_func Try.f38 rfl rfl (by simp [Try.f38]) ?_; dsimp only [codeL, Try.f38, scL, sopsL, guardL, dstAt, loopKey])
  by_cases h : 0 ≤ k ∧ k < S.length
  · have hl : k.toNat < S.length := by omega
    by_cases hk : k ∈ B
    · rw [if_pos hk] at hf
      (repeat (first
    | (apply is_ok; (case hw => simp [hH, hW, hf, h]); (case he => simp [hH, hW, hf, h]; exact is_rfl))
    | (apply op_no; (case hw => simp [hH, hW, hf, h]))
    | refine op_nil ?_ | refine next_normal ?_ | refine go_seq ?_ | refine go_region ?_ | refine go_skip ?_ | refine go_block ?_ | refine inb_normal ?_
    | (apply go_yes; (case hc => simp [hH, hW, hf, h])) | (apply go_no; (case hc => simp [hH, hW, hf, h]))
    | refine go_exit ?_ | refine next_exit ?_ | refine inb_here ?_ | refine inb_past (by decide) ?_ | refine go_ret ?_ | refine next_ret ?_ | refine inb_ret ?_))
      (apply ends_ok; (case h1 => simp; exact is_rfl); (case h2 => simp; exact is_rfl))
      simp [h, hk]
    · rw [if_neg hk] at hf
      (repeat (first
    | (apply is_ok; (case hw => simp [hH, hW, hf, h, hl]); (case he => simp [hH, hW, hf, h, hl]; exact is_rfl))
    | (apply op_no; (case hw => simp [hH, hW, hf, h, hl]))
    | refine op_nil ?_ | refine next_normal ?_ | refine go_seq ?_ | refine go_region ?_ | refine go_skip ?_ | refine go_block ?_ | refine inb_normal ?_
    | (apply go_yes; (case hc => simp [hH, hW, hf, h, hl])) | (apply go_no; (case hc => simp [hH, hW, hf, h, hl]))
    | refine go_exit ?_ | refine next_exit ?_ | refine inb_here ?_ | refine inb_past (by decide) ?_ | refine go_ret ?_ | refine next_ret ?_ | refine inb_ret ?_))
      (apply ends_ok; (case h1 => simp; exact is_rfl); (case h2 => simp; exact is_rfl))
      simp [h, hk, hl]
  · (repeat (first
    | (apply is_ok; (case hw => simp [hH, h]); (case he => simp [hH, h]; exact is_rfl))
    | (apply op_no; (case hw => simp [hH, h]))
    | refine op_nil ?_ | refine next_normal ?_ | refine go_seq ?_ | refine go_region ?_ | refine go_skip ?_ | refine go_block ?_ | refine inb_normal ?_
    | (apply go_yes; (case hc => simp [hH, h])) | (apply go_no; (case hc => simp [hH, h]))
    | refine go_exit ?_ | refine next_exit ?_ | refine inb_here ?_ | refine inb_past (by decide) ?_ | refine go_ret ?_ | refine next_ret ?_ | refine inb_ret ?_))
    (apply ends_ok; (case h1 => simp; exact is_rfl); (case h2 => simp; exact is_rfl))
    simp [h]

abbrev wrV (w : Int × List UInt8) : V := .agg [.int .i64 w.1, .str w.2]
def faultI (n : Nat) (B : List Int) (w : Int × List UInt8) : Int := if 0 ≤ w.1 ∧ w.1 < n then if 128 < w.2.length then 7 else if w.1 ∈ B then 21 else 0 else 2

theorem fault_eq (S : List (List UInt8)) (B : List Int) (w : Int × List UInt8) : bodyW DC 69 [drv S B, wornV B, wrV w] [] = some (.int .i64 (faultI S.length B w), []) := by
  have hH := has_eq S B w.1
  have hf := findK_worn w.1 (.bool true) B
  unfold faultI
  (refine gives_iff ?_; refine go_func Try.f69 rfl rfl (by simp [Try.f69]) ?_; dsimp only [codeL, Try.f69, scL, sopsL, guardL, dstAt, loopKey])
  by_cases h : 0 ≤ w.1 ∧ w.1 < S.length
  · by_cases h2 : 128 < w.2.length
    · have e2 : (128 : Int) < w.2.length := by omega
      (repeat (first
    | (apply is_ok; (case hw => simp [hH, h, h2, e2]); (case he => simp [hH, h, h2, e2]; exact is_rfl))
    | (apply op_no; (case hw => simp [hH, h, h2, e2]))
    | refine op_nil ?_ | refine next_normal ?_ | refine go_seq ?_ | refine go_region ?_ | refine go_skip ?_ | refine go_block ?_ | refine inb_normal ?_
    | (apply go_yes; (case hc => simp [hH, h, h2, e2])) | (apply go_no; (case hc => simp [hH, h, h2, e2]))
    | refine go_exit ?_ | refine next_exit ?_ | refine inb_here ?_ | refine inb_past (by decide) ?_ | refine go_ret ?_ | refine next_ret ?_ | refine inb_ret ?_))
      (apply ends_ok; (case h1 => simp; exact is_rfl); (case h2 => simp; exact is_rfl))
      simp [h, h2]
    · have e2 : ¬ ((128 : Int) < w.2.length) := by omega
      by_cases hk : w.1 ∈ B
      · rw [if_pos hk] at hf
        (repeat (first
    | (apply is_ok; (case hw => simp [hH, h, h2, e2, hf]); (case he => simp [hH, h, h2, e2, hf]; exact is_rfl))
    | (apply op_no; (case hw => simp [hH, h, h2, e2, hf]))
    | refine op_nil ?_ | refine next_normal ?_ | refine go_seq ?_ | refine go_region ?_ | refine go_skip ?_ | refine go_block ?_ | refine inb_normal ?_
    | (apply go_yes; (case hc => simp [hH, h, h2, e2, hf])) | (apply go_no; (case hc => simp [hH, h, h2, e2, hf]))
    | refine go_exit ?_ | refine next_exit ?_ | refine inb_here ?_ | refine inb_past (by decide) ?_ | refine go_ret ?_ | refine next_ret ?_ | refine inb_ret ?_))
        (apply ends_ok; (case h1 => simp; exact is_rfl); (case h2 => simp; exact is_rfl))
        simp [h, h2, hk]
      · rw [if_neg hk] at hf
        (repeat (first
    | (apply is_ok; (case hw => simp [hH, h, h2, e2, hf]); (case he => simp [hH, h, h2, e2, hf]; exact is_rfl))
    | (apply op_no; (case hw => simp [hH, h, h2, e2, hf]))
    | refine op_nil ?_ | refine next_normal ?_ | refine go_seq ?_ | refine go_region ?_ | refine go_skip ?_ | refine go_block ?_ | refine inb_normal ?_
    | (apply go_yes; (case hc => simp [hH, h, h2, e2, hf])) | (apply go_no; (case hc => simp [hH, h, h2, e2, hf]))
    | refine go_exit ?_ | refine next_exit ?_ | refine inb_here ?_ | refine inb_past (by decide) ?_ | refine go_ret ?_ | refine next_ret ?_ | refine inb_ret ?_))
        (apply ends_ok; (case h1 => simp; exact is_rfl); (case h2 => simp; exact is_rfl))
        simp [h, h2, hk]
  · (repeat (first
    | (apply is_ok; (case hw => simp [hH, h]); (case he => simp [hH, h]; exact is_rfl))
    | (apply op_no; (case hw => simp [hH, h]))
    | refine op_nil ?_ | refine next_normal ?_ | refine go_seq ?_ | refine go_region ?_ | refine go_skip ?_ | refine go_block ?_ | refine inb_normal ?_
    | (apply go_yes; (case hc => simp [hH, h])) | (apply go_no; (case hc => simp [hH, h]))
    | refine go_exit ?_ | refine next_exit ?_ | refine inb_here ?_ | refine inb_past (by decide) ?_ | refine go_ret ?_ | refine next_ret ?_ | refine inb_ret ?_))
    (apply ends_ok; (case h1 => simp; exact is_rfl); (case h2 => simp; exact is_rfl))
    simp [h]

end Go.Abs

namespace Go.Abs
open Go.Proofs
set_option maxRecDepth 100000
set_option linter.unusedSimpArgs false

theorem copied_eq (S : List (List UInt8)) (B : List Int) (hS : S.length ≤ 1000000) (hB : B.length ≤ 1000000) : bodyW DC 68 [drv S B] [] = some (.agg [.own 0 S.length 0 S.length, .own 1 B.length 0 B.length], [.dat true 1 (strs S), .dat true 1 (ints B)]) := by
  have r1 : S.length * 16 ≤ room := by unfold room; omega
  have r2 : S.length ≤ room := by unfold room; omega
  have r3 : B.length * 8 ≤ room := by unfold room; omega
  have r4 : B.length ≤ room := by unfold room; omega
  (refine gives_iff ?_; refine go_func Try.f68 rfl rfl (by simp [Try.f68]) ?_; dsimp only [codeL, Try.f68, scL, sopsL, guardL, dstAt, loopKey])
  (repeat (first
    | (apply is_ok; (case hw => simp [cloneX, r1, r2, r3, r4]); (case he => simp [cloneX, r1, r2, r3, r4]; exact is_rfl))
    | (apply op_no; (case hw => simp [cloneX, r1, r2, r3, r4]))
    | refine op_nil ?_ | refine next_normal ?_ | refine go_seq ?_ | refine go_region ?_ | refine go_skip ?_ | refine go_block ?_ | refine inb_normal ?_
    | (apply go_yes; (case hc => simp [cloneX, r1, r2, r3, r4])) | (apply go_no; (case hc => simp [cloneX, r1, r2, r3, r4]))
    | refine go_exit ?_ | refine next_exit ?_ | refine inb_here ?_ | refine inb_past (by decide) ?_ | refine go_ret ?_ | refine next_ret ?_ | refine inb_ret ?_))
  (apply ends_ok; (case h1 => simp; exact is_rfl); (case h2 => simp; exact is_rfl))
  simp
end Go.Abs

namespace Go.Abs
open Go.Proofs
set_option maxRecDepth 100000
set_option linter.unusedSimpArgs false

def putS (S : List (List UInt8)) (w : Int × List UInt8) : List (List UInt8) := S.set w.1.toNat (w.2 ++ List.replicate (128 - w.2.length) 0)

theorem faultI_zero {n : Nat} {B : List Int} {w : Int × List UInt8} : faultI n B w = 0 ↔ (0 ≤ w.1 ∧ w.1 < n) ∧ w.2.length ≤ 128 ∧ w.1 ∉ B := by
  unfold faultI
  by_cases h : 0 ≤ w.1 ∧ w.1 < n
  · by_cases h2 : 128 < w.2.length
    · simp [h, h2]; omega
    · by_cases h3 : w.1 ∈ B
      · simp [h, h2, h3]
      · simp [h, h2, h3]; omega
  · simp [h]

def applyS (B : List Int) (fuse : Int) : List (List UInt8) → Nat → List (Int × List UInt8) → List (List UInt8) × Nat × Int
  | S, i, [] => (S, i, 0)
  | S, i, w :: r => if (i : Int) = fuse then (S, i, 0) else if faultI S.length B w = 0 then applyS B fuse (putS S w) (i + 1) r else (S, i, faultI S.length B w)

theorem repeatL_zero (n : Nat) : Lib.repeatL [0] n = List.replicate n (0 : UInt8) := by
  induction n with
  | zero => rfl
  | succ n ih => show [0] ++ Lib.repeatL [0] n = _; rw [ih]; rfl

theorem Apply_eq (S : List (List UInt8)) (B : List Int) (hS : S.length ≤ 1000000) (hB : B.length ≤ 1000000) (l : List (Int × List UInt8)) (hl : l.length ≤ 1000000) (fuse : Int) :
    bodyW DC 48 [drv S B, .sl (l.map wrV), .int .i64 fuse] [] =
      some (.tuple [.agg [.own 0 S.length 0 S.length, .own 1 B.length 0 B.length], .int .i64 (applyS B fuse S 0 l).2.1, .int .i64 (applyS B fuse S 0 l).2.2], [.dat true 1 (strs (applyS B fuse S 0 l).1), .dat true 1 (ints B)]) := by
  have hC := copied_eq S B hS hB
  have hW := worn_eq S B (by unfold maxLen; omega)
  generalize hR : applyS B fuse S 0 l = R
  (refine gives_iff ?_; refine go_func Try.f48 rfl rfl (by simp [Try.f48]) ?_; dsimp only [codeL, Try.f48, scL, sopsL, guardL, dstAt, loopKey])
  (repeat (first
    | (apply is_ok; (case hw => simp [hC, hW]); (case he => simp [hC, hW]; exact is_rfl))
    | (apply op_no; (case hw => simp [hC, hW]))
    | refine op_nil ?_ | refine next_normal ?_ | refine go_seq ?_ | refine go_region ?_ | refine go_skip ?_ | refine go_block ?_ | refine inb_normal ?_
    | (apply go_yes; (case hc => simp [hC, hW])) | (apply go_no; (case hc => simp [hC, hW]))
    | refine go_exit ?_ | refine next_exit ?_ | refine inb_here ?_ | refine inb_past (by decide) ?_ | refine go_ret ?_ | refine next_ret ?_ | refine inb_ret ?_))
  refine go_while (σ := Nat × List (List UInt8)) (fun s => [(1, .sl (l.map wrV)), (2, .int .i64 fuse), (3, .ptr 0 1 0 0), (6, .ptr 3 1 0 0), (9, .map 6), (17, .sl (l.map wrV)), (18, .int .i64 l.length), (19, .int .i64 s.1)])
    (fun s => [.box (.agg [.own 1 S.length 0 S.length, .own 2 B.length 0 B.length]), .dat true 1 (strs s.2), .dat true 1 (ints B), .box (.agg [.own 4 0 0 0, .own 5 0 0 0]), .dat true 1 [], .dat true 1 [], .map true (ints (wornK B)) (List.replicate (wornK B).length (.bool true))])
    (fun s => s.1 ≤ l.length ∧ s.2.length = S.length ∧ applyS B fuse s.2 s.1 (l.drop s.1) = R) (fun s => l.length - s.1) (0, S) (by simp) (by simpa using hR) fun ⟨i, T⟩ ⟨hi, hT, hA⟩ => ?_
  simp only at hi hT hA ⊢
  by_cases hlt : i < l.length
  · have hw : IntKind.i64.wrap ((i : Int) + 1) = (i : Int) + 1 := wrap_id (by omega) (by omega)
    have hF := fault_eq T B l[i]
    rw [List.drop_eq_getElem_cons hlt, applyS] at hA
    by_cases hf : (i : Int) = fuse
    · subst hf
      rw [if_pos rfl] at hA
      (repeat (first
    | (apply is_ok; (case hw => simp [hlt]); (case he => simp [hlt]; exact is_rfl))
    | (apply op_no; (case hw => simp [hlt]))
    | refine op_nil ?_ | refine next_normal ?_ | refine go_seq ?_ | refine go_region ?_ | refine go_skip ?_ | refine go_block ?_ | refine inb_normal ?_
    | (apply go_yes; (case hc => simp [hlt])) | (apply go_no; (case hc => simp [hlt]))
    | refine go_exit ?_ | refine next_exit ?_ | refine inb_here ?_ | refine inb_past (by decide) ?_ | refine go_ret ?_ | refine next_ret ?_ | refine inb_ret ?_))
      (apply ends_ok; (case h1 => simp; exact is_rfl); (case h2 => simp; exact is_rfl))
      simp [← hA, hT]
    · rw [if_neg hf] at hA
      by_cases hz : faultI T.length B l[i] = 0
      · rw [if_pos hz] at hA
        obtain ⟨⟨h1, h2⟩, h3, h4⟩ := faultI_zero.1 hz
        have e4 : IntKind.i64.wrap (128 - (l[i].2.length : Int)) = ((128 - l[i].2.length : Nat) : Int) := by rw [wrap_id (by omega) (by omega)]; omega
        have e5 : 128 - l[i].2.length ≤ 140737488355328 := by omega
        have e6 : ((128 - l[i].2.length : Nat) : Int) ≤ 9223372036854775807 := by omega
        have r3 : l[i].2.length + (128 - l[i].2.length) ≤ room := by unfold room; omega
        have hl' : l[i].1.toNat < T.length := by omega
        have hl'' : l[i].1.toNat < S.length := by omega
        have hl3 : l[i].1 < S.length := by omega
        rw [hT] at hz
        rw [hT] at hF
        (repeat (first
    | (apply is_ok; (case hw => simp [hlt, hf, hF, hz, e4, e5, e6, r3, hl', hl'', hl3, hT, h1, repeatX, repeatL_zero]); (case he => simp [hlt, hf, hF, hz, e4, e5, e6, r3, hl', hl'', hl3, hT, h1, repeatX, repeatL_zero]; exact is_rfl))
    | (apply op_no; (case hw => simp [hlt, hf, hF, hz, e4, e5, e6, r3, hl', hl'', hl3, hT, h1, repeatX, repeatL_zero]))
    | refine op_nil ?_ | refine next_normal ?_ | refine go_seq ?_ | refine go_region ?_ | refine go_skip ?_ | refine go_block ?_ | refine inb_normal ?_
    | (apply go_yes; (case hc => simp [hlt, hf, hF, hz, e4, e5, e6, r3, hl', hl'', hl3, hT, h1, repeatX, repeatL_zero])) | (apply go_no; (case hc => simp [hlt, hf, hF, hz, e4, e5, e6, r3, hl', hl'', hl3, hT, h1, repeatX, repeatL_zero]))
    | refine go_exit ?_ | refine next_exit ?_ | refine inb_here ?_ | refine inb_past (by decide) ?_ | refine go_ret ?_ | refine next_ret ?_ | refine inb_ret ?_))
        refine ⟨(i + 1, putS T l[i]), by simp [hw, putS, List.map_set], by show l.length - (i + 1) < l.length - i; omega, by show i + 1 ≤ l.length; omega, by simpa [putS] using hT, hA⟩
      · rw [if_neg hz] at hA
        rw [hT] at hz hF hA
        (repeat (first
    | (apply is_ok; (case hw => simp [hlt, hf, hF, hz, hT]); (case he => simp [hlt, hf, hF, hz, hT]; exact is_rfl))
    | (apply op_no; (case hw => simp [hlt, hf, hF, hz, hT]))
    | refine op_nil ?_ | refine next_normal ?_ | refine go_seq ?_ | refine go_region ?_ | refine go_skip ?_ | refine go_block ?_ | refine inb_normal ?_
    | (apply go_yes; (case hc => simp [hlt, hf, hF, hz, hT])) | (apply go_no; (case hc => simp [hlt, hf, hF, hz, hT]))
    | refine go_exit ?_ | refine next_exit ?_ | refine inb_here ?_ | refine inb_past (by decide) ?_ | refine go_ret ?_ | refine next_ret ?_ | refine inb_ret ?_))
        (apply ends_ok; (case h1 => simp; exact is_rfl); (case h2 => simp; exact is_rfl))
        simp [← hA, hT]
  · (repeat (first
    | (apply is_ok; (case hw => simp [hlt]); (case he => simp [hlt]; exact is_rfl))
    | (apply op_no; (case hw => simp [hlt]))
    | refine op_nil ?_ | refine next_normal ?_ | refine go_seq ?_ | refine go_region ?_ | refine go_skip ?_ | refine go_block ?_ | refine inb_normal ?_
    | (apply go_yes; (case hc => simp [hlt])) | (apply go_no; (case hc => simp [hlt]))
    | refine go_exit ?_ | refine next_exit ?_ | refine inb_here ?_ | refine inb_past (by decide) ?_ | refine go_ret ?_ | refine next_ret ?_ | refine inb_ret ?_))
    (apply ends_ok; (case h1 => simp; exact is_rfl); (case h2 => simp; exact is_rfl))
    have : i = l.length := by omega
    rw [this, List.drop_length, applyS] at hA
    simp [← hA, hT, this]

end Go.Abs

namespace Go.Abs
open Go.Proofs
set_option maxRecDepth 100000
set_option linter.unusedSimpArgs false

theorem putS_length {S : List (List UInt8)} {w : Int × List UInt8} : (putS S w).length = S.length := by simp [putS]

end Go.Abs

