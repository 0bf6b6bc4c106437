/- Proved here: what functions of the program compute, over the evaluator. No condition but those that each theorem states. -/
import Derived.Test.YthpkihimboiglaaH8
import Derived.Test.YthpkihimboiglaaSYS
namespace Go.Abs
open Go.Proofs
set_option maxRecDepth 100000
set_option linter.unusedSimpArgs false
set_option linter.unusedVariables false

def coreL (ps : List Pr) : List Ex := (ps.filter fun p => decide (hasP p) && !p.swd).map fun p => (p.base, p.blk)
def swpL (ps : List Pr) : List Ex := (ps.filter fun p => decide (hasP p) && p.swd).map fun p => (p.base, secN p.blk)
theorem coreL_snoc (ps : List Pr) (p : Pr) : coreL (ps ++ [p]) = coreL ps ++ (if hasP p ∧ p.swd = false then [(p.base, p.blk)] else []) := by
  unfold coreL
  by_cases h1 : hasP p <;> cases h2 : p.swd <;> simp [h1, h2, List.filter_append]
theorem swpL_snoc (ps : List Pr) (p : Pr) : swpL (ps ++ [p]) = swpL ps ++ (if hasP p ∧ p.swd = true then [(p.base, secN p.blk)] else []) := by
  unfold swpL
  by_cases h1 : hasP p <;> cases h2 : p.swd <;> simp [h1, h2, List.filter_append]

@[simp] theorem coreL_nil : coreL [] = [] := rfl
@[simp] theorem swpL_nil : swpL [] = [] := rfl
theorem coreL_len (ps : List Pr) : (coreL ps).length ≤ ps.length := by unfold coreL; rw [List.length_map]; exact List.length_filter_le ..
theorem swpL_len (ps : List Pr) : (swpL ps).length ≤ ps.length := by unfold swpL; rw [List.length_map]; exact List.length_filter_le ..

theorem Core_eq (s : Sys) : bodyW DC 16 [.agg (prsC s.ps)] [] = some (.own 0 (coreL s.ps).length 0 (coreL s.ps).length, [.dat true 2 ((coreL s.ps).map exV)]) := by
  have hps := s.hps
  (refine gives_iff ?_; refine go_func Try.f16 rfl rfl (by simp [Try.f16]) ?_; dsimp only [codeL, Try.f16, scL, sopsL, guardL, dstAt, loopKey])
  (repeat (first
    | (apply is_ok; (case hw => simp); (case he => simp; exact is_rfl))
    | (apply op_no; (case hw => simp))
    | refine op_nil ?_ | refine next_normal ?_ | refine go_seq ?_ | refine go_region ?_ | refine go_skip ?_ | refine go_block ?_ | refine inb_normal ?_
    | (apply go_yes; (case hc => simp)) | (apply go_no; (case hc => simp))
    | refine go_exit ?_ | refine next_exit ?_ | refine inb_here ?_ | refine inb_past (by decide) ?_ | refine go_ret ?_ | refine next_ret ?_ | refine inb_ret ?_))
  refine go_count 8 (fun i => [(3, .own 0 (coreL (s.ps.take i)).length 0 (coreL (s.ps.take i)).length), (6, .agg (prsC s.ps)), (7, .int .i64 i)]) (fun i => [.dat true 2 ((coreL (s.ps.take i)).map exV)]) (fun _ => True) (by simp) trivial fun i hi _ => ?_
  by_cases hlt : i < 8
  · have g1 : (i : Int) < 8 := by omega
    have g2 : s.ps[i]? = some s.ps[i] := List.getElem?_eq_getElem (by omega)
    have w1 : IntKind.i64.wrap ((i : Int) + 1) = (i : Int) + 1 := wrap_id (by omega) (by omega)
    have e1 : s.ps.take (i + 1) = s.ps.take i ++ [s.ps[i]] := List.take_succ_eq_append_getElem (by omega)
    have v := hasImage_eq s.ps[i]
    rw [e1, coreL_snoc]
    have hr := coreL_len (s.ps.take i)
    rw [List.length_take] at hr
    have r1 : ((coreL (s.ps.take i)).length + 1) * 16 ≤ room := by unfold room; omega
    have r2 : (coreL (s.ps.take i)).length + 1 ≤ room := by unfold room; omega
    by_cases c1 : hasP s.ps[i]
    · rw [decide_eq_true c1] at v
      cases c2 : s.ps[i].swd with
      | false =>
        rw [if_pos ⟨c1, rfl⟩]
        (repeat (first
    | (apply is_ok; (case hw => simp [g1, g2, hlt, v, c2, w1, r1, r2]); (case he => simp [g1, g2, hlt, v, c2, w1, r1, r2]; exact is_rfl))
    | (apply op_no; (case hw => simp [g1, g2, hlt, v, c2, w1, r1, r2]))
    | refine op_nil ?_ | refine next_normal ?_ | refine go_seq ?_ | refine go_region ?_ | refine go_skip ?_ | refine go_block ?_ | refine inb_normal ?_
    | (apply go_yes; (case hc => simp [g1, g2, hlt, v, c2, w1, r1, r2])) | (apply go_no; (case hc => simp [g1, g2, hlt, v, c2, w1, r1, r2]))
    | refine go_exit ?_ | refine next_exit ?_ | refine inb_here ?_ | refine inb_past (by decide) ?_ | refine go_ret ?_ | refine next_ret ?_ | refine inb_ret ?_))
        exact ⟨hlt, by simp [w1, exV], trivial⟩
      | true =>
        rw [if_neg (fun h => by cases h.2)]
        (repeat (first
    | (apply is_ok; (case hw => simp [g1, g2, hlt, v, c2, w1, r1, r2]); (case he => simp [g1, g2, hlt, v, c2, w1, r1, r2]; exact is_rfl))
    | (apply op_no; (case hw => simp [g1, g2, hlt, v, c2, w1, r1, r2]))
    | refine op_nil ?_ | refine next_normal ?_ | refine go_seq ?_ | refine go_region ?_ | refine go_skip ?_ | refine go_block ?_ | refine inb_normal ?_
    | (apply go_yes; (case hc => simp [g1, g2, hlt, v, c2, w1, r1, r2])) | (apply go_no; (case hc => simp [g1, g2, hlt, v, c2, w1, r1, r2]))
    | refine go_exit ?_ | refine next_exit ?_ | refine inb_here ?_ | refine inb_past (by decide) ?_ | refine go_ret ?_ | refine next_ret ?_ | refine inb_ret ?_))
        exact ⟨hlt, by simp [w1], trivial⟩
    · rw [decide_eq_false c1] at v
      rw [if_neg (fun h => c1 h.1)]
      (repeat (first
    | (apply is_ok; (case hw => simp [g1, g2, hlt, v, w1, r1, r2]); (case he => simp [g1, g2, hlt, v, w1, r1, r2]; exact is_rfl))
    | (apply op_no; (case hw => simp [g1, g2, hlt, v, w1, r1, r2]))
    | refine op_nil ?_ | refine next_normal ?_ | refine go_seq ?_ | refine go_region ?_ | refine go_skip ?_ | refine go_block ?_ | refine inb_normal ?_
    | (apply go_yes; (case hc => simp [g1, g2, hlt, v, w1, r1, r2])) | (apply go_no; (case hc => simp [g1, g2, hlt, v, w1, r1, r2]))
    | refine go_exit ?_ | refine next_exit ?_ | refine inb_here ?_ | refine inb_past (by decide) ?_ | refine go_ret ?_ | refine next_ret ?_ | refine inb_ret ?_))
      exact ⟨hlt, by simp [w1], trivial⟩
  · have : i = 8 := by omega
    subst this
    rw [List.take_of_length_le (by omega)]
    (repeat (first
    | (apply is_ok; (case hw => simp); (case he => simp; exact is_rfl))
    | (apply op_no; (case hw => simp))
    | refine op_nil ?_ | refine next_normal ?_ | refine go_seq ?_ | refine go_region ?_ | refine go_skip ?_ | refine go_block ?_ | refine inb_normal ?_
    | (apply go_yes; (case hc => simp)) | (apply go_no; (case hc => simp))
    | refine go_exit ?_ | refine next_exit ?_ | refine inb_here ?_ | refine inb_past (by decide) ?_ | refine go_ret ?_ | refine next_ret ?_ | refine inb_ret ?_))
    (apply ends_ok; (case h1 => simp; exact is_rfl); (case h2 => simp; exact is_rfl))
    simp
theorem CoreR_eq (s : Sys) : bodyW DC 17 [.agg (prsC s.ps)] [] = some (.own 0 (coreL s.ps).length 0 (coreL s.ps).length, [.dat true 2 ((coreL s.ps).map exV)]) := by
  have hps := s.hps
  (refine gives_iff ?_; refine go_func Try.f17 rfl rfl (by simp [Try.f17]) ?_; dsimp only [codeL, Try.f17, scL, sopsL, guardL, dstAt, loopKey])
  (repeat (first
    | (apply is_ok; (case hw => simp); (case he => simp; exact is_rfl))
    | (apply op_no; (case hw => simp))
    | refine op_nil ?_ | refine next_normal ?_ | refine go_seq ?_ | refine go_region ?_ | refine go_skip ?_ | refine go_block ?_ | refine inb_normal ?_
    | (apply go_yes; (case hc => simp)) | (apply go_no; (case hc => simp))
    | refine go_exit ?_ | refine next_exit ?_ | refine inb_here ?_ | refine inb_past (by decide) ?_ | refine go_ret ?_ | refine next_ret ?_ | refine inb_ret ?_))
  refine go_count 8 (fun i => [(1, .ptr 0 1 0 0), (3, .own 1 (coreL (s.ps.take i)).length 0 (coreL (s.ps.take i)).length), (4, .int .i64 i)]) (fun i => [.box (.agg (prsC s.ps)), .dat true 2 ((coreL (s.ps.take i)).map exV)]) (fun _ => True) (by simp) trivial fun i hi _ => ?_
  by_cases hlt : i < 8
  · have g1 : (i : Int) < 8 := by omega
    have g2 : s.ps[i]? = some s.ps[i] := List.getElem?_eq_getElem (by omega)
    have w1 : IntKind.i64.wrap ((i : Int) + 1) = (i : Int) + 1 := wrap_id (by omega) (by omega)
    have e1 : s.ps.take (i + 1) = s.ps.take i ++ [s.ps[i]] := List.take_succ_eq_append_getElem (by omega)
    have v := hasR_eq s.ps[i]
    rw [e1, coreL_snoc]
    have hr := coreL_len (s.ps.take i)
    rw [List.length_take] at hr
    have r1 : ((coreL (s.ps.take i)).length + 1) * 16 ≤ room := by unfold room; omega
    have r2 : (coreL (s.ps.take i)).length + 1 ≤ room := by unfold room; omega
    by_cases c1 : hasP s.ps[i]
    · rw [decide_eq_true c1] at v
      cases c2 : s.ps[i].swd with
      | false =>
        rw [if_pos ⟨c1, rfl⟩]
        (repeat (first
    | (apply is_ok; (case hw => simp [g1, g2, hlt, v, c2, w1, r1, r2]); (case he => simp [g1, g2, hlt, v, c2, w1, r1, r2]; exact is_rfl))
    | (apply op_no; (case hw => simp [g1, g2, hlt, v, c2, w1, r1, r2]))
    | refine op_nil ?_ | refine next_normal ?_ | refine go_seq ?_ | refine go_region ?_ | refine go_skip ?_ | refine go_block ?_ | refine inb_normal ?_
    | (apply go_yes; (case hc => simp [g1, g2, hlt, v, c2, w1, r1, r2])) | (apply go_no; (case hc => simp [g1, g2, hlt, v, c2, w1, r1, r2]))
    | refine go_exit ?_ | refine next_exit ?_ | refine inb_here ?_ | refine inb_past (by decide) ?_ | refine go_ret ?_ | refine next_ret ?_ | refine inb_ret ?_))
        exact ⟨hlt, by simp [w1, exV], trivial⟩
      | true =>
        rw [if_neg (fun h => by cases h.2)]
        (repeat (first
    | (apply is_ok; (case hw => simp [g1, g2, hlt, v, c2, w1, r1, r2]); (case he => simp [g1, g2, hlt, v, c2, w1, r1, r2]; exact is_rfl))
    | (apply op_no; (case hw => simp [g1, g2, hlt, v, c2, w1, r1, r2]))
    | refine op_nil ?_ | refine next_normal ?_ | refine go_seq ?_ | refine go_region ?_ | refine go_skip ?_ | refine go_block ?_ | refine inb_normal ?_
    | (apply go_yes; (case hc => simp [g1, g2, hlt, v, c2, w1, r1, r2])) | (apply go_no; (case hc => simp [g1, g2, hlt, v, c2, w1, r1, r2]))
    | refine go_exit ?_ | refine next_exit ?_ | refine inb_here ?_ | refine inb_past (by decide) ?_ | refine go_ret ?_ | refine next_ret ?_ | refine inb_ret ?_))
        exact ⟨hlt, by simp [w1], trivial⟩
    · rw [decide_eq_false c1] at v
      rw [if_neg (fun h => c1 h.1)]
      (repeat (first
    | (apply is_ok; (case hw => simp [g1, g2, hlt, v, w1, r1, r2]); (case he => simp [g1, g2, hlt, v, w1, r1, r2]; exact is_rfl))
    | (apply op_no; (case hw => simp [g1, g2, hlt, v, w1, r1, r2]))
    | refine op_nil ?_ | refine next_normal ?_ | refine go_seq ?_ | refine go_region ?_ | refine go_skip ?_ | refine go_block ?_ | refine inb_normal ?_
    | (apply go_yes; (case hc => simp [g1, g2, hlt, v, w1, r1, r2])) | (apply go_no; (case hc => simp [g1, g2, hlt, v, w1, r1, r2]))
    | refine go_exit ?_ | refine next_exit ?_ | refine inb_here ?_ | refine inb_past (by decide) ?_ | refine go_ret ?_ | refine next_ret ?_ | refine inb_ret ?_))
      exact ⟨hlt, by simp [w1], trivial⟩
  · have : i = 8 := by omega
    subst this
    rw [List.take_of_length_le (by omega)]
    (repeat (first
    | (apply is_ok; (case hw => simp); (case he => simp; exact is_rfl))
    | (apply op_no; (case hw => simp))
    | refine op_nil ?_ | refine next_normal ?_ | refine go_seq ?_ | refine go_region ?_ | refine go_skip ?_ | refine go_block ?_ | refine inb_normal ?_
    | (apply go_yes; (case hc => simp)) | (apply go_no; (case hc => simp))
    | refine go_exit ?_ | refine next_exit ?_ | refine inb_here ?_ | refine inb_past (by decide) ?_ | refine go_ret ?_ | refine next_ret ?_ | refine inb_ret ?_))
    (apply ends_ok; (case h1 => simp; exact is_rfl); (case h2 => simp; exact is_rfl))
    simp
theorem Swapped_eq (s : Sys) (hk : ∀ p ∈ s.ps, -9223372036854775808 ≤ p.blk ∧ p.blk ≤ 9223372036854775807) : bodyW DC 18 [.agg (prsC s.ps)] [] = some (.own 0 (swpL s.ps).length 0 (swpL s.ps).length, [.dat true 2 ((swpL s.ps).map exV)]) := by
  have hps := s.hps
  (refine gives_iff ?_; refine go_func Try.f18 rfl rfl (by simp [Try.f18]) ?_; dsimp only [codeL, Try.f18, scL, sopsL, guardL, dstAt, loopKey])
  (repeat (first
    | (apply is_ok; (case hw => simp); (case he => simp; exact is_rfl))
    | (apply op_no; (case hw => simp))
    | refine op_nil ?_ | refine next_normal ?_ | refine go_seq ?_ | refine go_region ?_ | refine go_skip ?_ | refine go_block ?_ | refine inb_normal ?_
    | (apply go_yes; (case hc => simp)) | (apply go_no; (case hc => simp))
    | refine go_exit ?_ | refine next_exit ?_ | refine inb_here ?_ | refine inb_past (by decide) ?_ | refine go_ret ?_ | refine next_ret ?_ | refine inb_ret ?_))
  refine go_count 8 (fun i => [(3, .own 0 (swpL (s.ps.take i)).length 0 (swpL (s.ps.take i)).length), (6, .agg (prsC s.ps)), (7, .int .i64 i)]) (fun i => [.dat true 2 ((swpL (s.ps.take i)).map exV)]) (fun _ => True) (by simp) trivial fun i hi _ => ?_
  by_cases hlt : i < 8
  · have g1 : (i : Int) < 8 := by omega
    have g2 : s.ps[i]? = some s.ps[i] := List.getElem?_eq_getElem (by omega)
    have w1 : IntKind.i64.wrap ((i : Int) + 1) = (i : Int) + 1 := wrap_id (by omega) (by omega)
    have e1 : s.ps.take (i + 1) = s.ps.take i ++ [s.ps[i]] := List.take_succ_eq_append_getElem (by omega)
    have v := hasImage_eq s.ps[i]
    have hb : -9223372036854775808 ≤ s.ps[i].blk ∧ s.ps[i].blk ≤ 9223372036854775807 := hk _ (List.getElem_mem _)
    have v2 := Sectors_eq s.ps[i].blk hb
    rw [e1, swpL_snoc]
    have hr := swpL_len (s.ps.take i)
    rw [List.length_take] at hr
    have r1 : ((swpL (s.ps.take i)).length + 1) * 16 ≤ room := by unfold room; omega
    have r2 : (swpL (s.ps.take i)).length + 1 ≤ room := by unfold room; omega
    by_cases c1 : hasP s.ps[i]
    · rw [decide_eq_true c1] at v
      cases c2 : s.ps[i].swd with
      | true =>
        rw [if_pos ⟨c1, rfl⟩]
        (repeat (first
    | (apply is_ok; (case hw => simp [g1, g2, hlt, v, v2, c2, w1, r1, r2]); (case he => simp [g1, g2, hlt, v, v2, c2, w1, r1, r2]; exact is_rfl))
    | (apply op_no; (case hw => simp [g1, g2, hlt, v, v2, c2, w1, r1, r2]))
    | refine op_nil ?_ | refine next_normal ?_ | refine go_seq ?_ | refine go_region ?_ | refine go_skip ?_ | refine go_block ?_ | refine inb_normal ?_
    | (apply go_yes; (case hc => simp [g1, g2, hlt, v, v2, c2, w1, r1, r2])) | (apply go_no; (case hc => simp [g1, g2, hlt, v, v2, c2, w1, r1, r2]))
    | refine go_exit ?_ | refine next_exit ?_ | refine inb_here ?_ | refine inb_past (by decide) ?_ | refine go_ret ?_ | refine next_ret ?_ | refine inb_ret ?_))
        exact ⟨hlt, by simp [w1, exV], trivial⟩
      | false =>
        rw [if_neg (fun h => by cases h.2)]
        (repeat (first
    | (apply is_ok; (case hw => simp [g1, g2, hlt, v, c2, w1, r1, r2]); (case he => simp [g1, g2, hlt, v, c2, w1, r1, r2]; exact is_rfl))
    | (apply op_no; (case hw => simp [g1, g2, hlt, v, c2, w1, r1, r2]))
    | refine op_nil ?_ | refine next_normal ?_ | refine go_seq ?_ | refine go_region ?_ | refine go_skip ?_ | refine go_block ?_ | refine inb_normal ?_
    | (apply go_yes; (case hc => simp [g1, g2, hlt, v, c2, w1, r1, r2])) | (apply go_no; (case hc => simp [g1, g2, hlt, v, c2, w1, r1, r2]))
    | refine go_exit ?_ | refine next_exit ?_ | refine inb_here ?_ | refine inb_past (by decide) ?_ | refine go_ret ?_ | refine next_ret ?_ | refine inb_ret ?_))
        exact ⟨hlt, by simp [w1], trivial⟩
    · rw [decide_eq_false c1] at v
      rw [if_neg (fun h => c1 h.1)]
      (repeat (first
    | (apply is_ok; (case hw => simp [g1, g2, hlt, v, w1, r1, r2]); (case he => simp [g1, g2, hlt, v, w1, r1, r2]; exact is_rfl))
    | (apply op_no; (case hw => simp [g1, g2, hlt, v, w1, r1, r2]))
    | refine op_nil ?_ | refine next_normal ?_ | refine go_seq ?_ | refine go_region ?_ | refine go_skip ?_ | refine go_block ?_ | refine inb_normal ?_
    | (apply go_yes; (case hc => simp [g1, g2, hlt, v, w1, r1, r2])) | (apply go_no; (case hc => simp [g1, g2, hlt, v, w1, r1, r2]))
    | refine go_exit ?_ | refine next_exit ?_ | refine inb_here ?_ | refine inb_past (by decide) ?_ | refine go_ret ?_ | refine next_ret ?_ | refine inb_ret ?_))
      exact ⟨hlt, by simp [w1], trivial⟩
  · have : i = 8 := by omega
    subst this
    rw [List.take_of_length_le (by omega)]
    (repeat (first
    | (apply is_ok; (case hw => simp); (case he => simp; exact is_rfl))
    | (apply op_no; (case hw => simp))
    | refine op_nil ?_ | refine next_normal ?_ | refine go_seq ?_ | refine go_region ?_ | refine go_skip ?_ | refine go_block ?_ | refine inb_normal ?_
    | (apply go_yes; (case hc => simp)) | (apply go_no; (case hc => simp))
    | refine go_exit ?_ | refine next_exit ?_ | refine inb_here ?_ | refine inb_past (by decide) ?_ | refine go_ret ?_ | refine next_ret ?_ | refine inb_ret ?_))
    (apply ends_ok; (case h1 => simp; exact is_rfl); (case h2 => simp; exact is_rfl))
    simp
theorem SwappedR_eq (s : Sys) (hk : ∀ p ∈ s.ps, -9223372036854775808 ≤ p.blk ∧ p.blk ≤ 9223372036854775807) : bodyW DC 19 [.agg (prsC s.ps)] [] = some (.own 0 (swpL s.ps).length 0 (swpL s.ps).length, [.dat true 2 ((swpL s.ps).map exV)]) := by
  have hps := s.hps
  (refine gives_iff ?_; refine go_func Try.f19 rfl rfl (by simp [Try.f19]) ?_; dsimp only [codeL, Try.f19, scL, sopsL, guardL, dstAt, loopKey])
  (repeat (first
    | (apply is_ok; (case hw => simp); (case he => simp; exact is_rfl))
    | (apply op_no; (case hw => simp))
    | refine op_nil ?_ | refine next_normal ?_ | refine go_seq ?_ | refine go_region ?_ | refine go_skip ?_ | refine go_block ?_ | refine inb_normal ?_
    | (apply go_yes; (case hc => simp)) | (apply go_no; (case hc => simp))
    | refine go_exit ?_ | refine next_exit ?_ | refine inb_here ?_ | refine inb_past (by decide) ?_ | refine go_ret ?_ | refine next_ret ?_ | refine inb_ret ?_))
  refine go_count 8 (fun i => [(1, .ptr 0 1 0 0), (3, .own 1 (swpL (s.ps.take i)).length 0 (swpL (s.ps.take i)).length), (4, .int .i64 i)]) (fun i => [.box (.agg (prsC s.ps)), .dat true 2 ((swpL (s.ps.take i)).map exV)]) (fun _ => True) (by simp) trivial fun i hi _ => ?_
  by_cases hlt : i < 8
  · have g1 : (i : Int) < 8 := by omega
    have g2 : s.ps[i]? = some s.ps[i] := List.getElem?_eq_getElem (by omega)
    have w1 : IntKind.i64.wrap ((i : Int) + 1) = (i : Int) + 1 := wrap_id (by omega) (by omega)
    have e1 : s.ps.take (i + 1) = s.ps.take i ++ [s.ps[i]] := List.take_succ_eq_append_getElem (by omega)
    have v := hasR_eq s.ps[i]
    have hb : -9223372036854775808 ≤ s.ps[i].blk ∧ s.ps[i].blk ≤ 9223372036854775807 := hk _ (List.getElem_mem _)
    have v2 := SectorsR_eq s.ps[i].blk hb
    rw [e1, swpL_snoc]
    have hr := swpL_len (s.ps.take i)
    rw [List.length_take] at hr
    have r1 : ((swpL (s.ps.take i)).length + 1) * 16 ≤ room := by unfold room; omega
    have r2 : (swpL (s.ps.take i)).length + 1 ≤ room := by unfold room; omega
    by_cases c1 : hasP s.ps[i]
    · rw [decide_eq_true c1] at v
      cases c2 : s.ps[i].swd with
      | true =>
        rw [if_pos ⟨c1, rfl⟩]
        (repeat (first
    | (apply is_ok; (case hw => simp [g1, g2, hlt, v, v2, c2, w1, r1, r2]); (case he => simp [g1, g2, hlt, v, v2, c2, w1, r1, r2]; exact is_rfl))
    | (apply op_no; (case hw => simp [g1, g2, hlt, v, v2, c2, w1, r1, r2]))
    | refine op_nil ?_ | refine next_normal ?_ | refine go_seq ?_ | refine go_region ?_ | refine go_skip ?_ | refine go_block ?_ | refine inb_normal ?_
    | (apply go_yes; (case hc => simp [g1, g2, hlt, v, v2, c2, w1, r1, r2])) | (apply go_no; (case hc => simp [g1, g2, hlt, v, v2, c2, w1, r1, r2]))
    | refine go_exit ?_ | refine next_exit ?_ | refine inb_here ?_ | refine inb_past (by decide) ?_ | refine go_ret ?_ | refine next_ret ?_ | refine inb_ret ?_))
        exact ⟨hlt, by simp [w1, exV], trivial⟩
      | false =>
        rw [if_neg (fun h => by cases h.2)]
        (repeat (first
    | (apply is_ok; (case hw => simp [g1, g2, hlt, v, c2, w1, r1, r2]); (case he => simp [g1, g2, hlt, v, c2, w1, r1, r2]; exact is_rfl))
    | (apply op_no; (case hw => simp [g1, g2, hlt, v, c2, w1, r1, r2]))
    | refine op_nil ?_ | refine next_normal ?_ | refine go_seq ?_ | refine go_region ?_ | refine go_skip ?_ | refine go_block ?_ | refine inb_normal ?_
    | (apply go_yes; (case hc => simp [g1, g2, hlt, v, c2, w1, r1, r2])) | (apply go_no; (case hc => simp [g1, g2, hlt, v, c2, w1, r1, r2]))
    | refine go_exit ?_ | refine next_exit ?_ | refine inb_here ?_ | refine inb_past (by decide) ?_ | refine go_ret ?_ | refine next_ret ?_ | refine inb_ret ?_))
        exact ⟨hlt, by simp [w1], trivial⟩
    · rw [decide_eq_false c1] at v
      rw [if_neg (fun h => c1 h.1)]
      (repeat (first
    | (apply is_ok; (case hw => simp [g1, g2, hlt, v, w1, r1, r2]); (case he => simp [g1, g2, hlt, v, w1, r1, r2]; exact is_rfl))
    | (apply op_no; (case hw => simp [g1, g2, hlt, v, w1, r1, r2]))
    | refine op_nil ?_ | refine next_normal ?_ | refine go_seq ?_ | refine go_region ?_ | refine go_skip ?_ | refine go_block ?_ | refine inb_normal ?_
    | (apply go_yes; (case hc => simp [g1, g2, hlt, v, w1, r1, r2])) | (apply go_no; (case hc => simp [g1, g2, hlt, v, w1, r1, r2]))
    | refine go_exit ?_ | refine next_exit ?_ | refine inb_here ?_ | refine inb_past (by decide) ?_ | refine go_ret ?_ | refine next_ret ?_ | refine inb_ret ?_))
      exact ⟨hlt, by simp [w1], trivial⟩
  · have : i = 8 := by omega
    subst this
    rw [List.take_of_length_le (by omega)]
    (repeat (first
    | (apply is_ok; (case hw => simp); (case he => simp; exact is_rfl))
    | (apply op_no; (case hw => simp))
    | refine op_nil ?_ | refine next_normal ?_ | refine go_seq ?_ | refine go_region ?_ | refine go_skip ?_ | refine go_block ?_ | refine inb_normal ?_
    | (apply go_yes; (case hc => simp)) | (apply go_no; (case hc => simp))
    | refine go_exit ?_ | refine next_exit ?_ | refine inb_here ?_ | refine inb_past (by decide) ?_ | refine go_ret ?_ | refine next_ret ?_ | refine inb_ret ?_))
    (apply ends_ok; (case h1 => simp; exact is_rfl); (case h2 => simp; exact is_rfl))
    simp
end Go.Abs
