/- Proved here: what functions of the program compute, over the evaluator. No condition but those that each theorem states. -/
import Derived.Test.YtpffmpllnpmkbaaDoorD8
namespace Go.Abs
open Go.Proofs
set_option maxRecDepth 100000
set_option linter.unusedSimpArgs false

theorem putS_length {S : List (List UInt8)} {w : Int × List UInt8} : (putS S w).length = S.length := by simp [putS]

theorem ApplyR_eq (S : List (List UInt8)) (B : List Int) (hS : S.length ≤ 1000000) (hB : B.length ≤ 1000000) (l : List (Int × List UInt8)) (hl : l.length ≤ 1000000) (fuse : Int) :
    bodyW DC 14 [drv S B, .sl (l.map wrV), .int .i64 fuse] [] =
      if (applyS B fuse S 0 l).2.1 = 0 then some (.tuple [drv (applyS B fuse S 0 l).1 B, .int .i64 (applyS B fuse S 0 l).2.1, .int .i64 (applyS B fuse S 0 l).2.2], [])
      else some (.tuple [.agg [.own 0 S.length 0 S.length, .sl (ints B)], .int .i64 (applyS B fuse S 0 l).2.1, .int .i64 (applyS B fuse S 0 l).2.2], [.dat true 1 (strs (applyS B fuse S 0 l).1)]) := by
  have hBm : B.length ≤ maxLen := by unfold maxLen; omega
  generalize hR : applyS B fuse S 0 l = R
  suffices h : ∃ r, bodyW DC 14 [drv S B, .sl (l.map wrV), .int .i64 fuse] [] = some r ∧ some r = (if R.2.1 = 0 then some (.tuple [drv R.1 B, .int .i64 R.2.1, .int .i64 R.2.2], [])
      else some (.tuple [.agg [.own 0 S.length 0 S.length, .sl (ints B)], .int .i64 R.2.1, .int .i64 R.2.2], [.dat true 1 (strs R.1)])) by
    obtain ⟨r, h1, h2⟩ := h
    rw [h1, h2]
  generalize hr : (if R.2.1 = 0 then some (V.tuple [drv R.1 B, .int .i64 R.2.1, .int .i64 R.2.2], ([] : Heap))
      else some (.tuple [.agg [.own 0 S.length 0 S.length, .sl (ints B)], .int .i64 R.2.1, .int .i64 R.2.2], [.dat true 1 (strs R.1)])) = rr
  obtain ⟨r0, rfl⟩ : ∃ r0, rr = some r0 := by
    split at hr <;> exact ⟨_, hr.symm⟩
  obtain ⟨r1, r2⟩ := r0
  refine ⟨(r1, r2), ?_, rfl⟩
  (refine gives_iff ?_; refine go_func Tryd.f14 rfl rfl (by simp [Tryd.f14]) ?_; dsimp only [codeL, Tryd.f14, scL, sopsL, guardL, dstAt, loopKey])
  (repeat (first
    | (apply is_ok; (case hw => simp); (case he => simp; exact is_rfl))
    | (apply op_no; (case hw => simp))
    | refine op_nil ?_ | refine next_normal ?_ | refine go_seq ?_ | refine go_region ?_ | refine go_skip ?_ | refine go_block ?_ | refine inb_normal ?_
    | (apply go_yes; (case hc => simp)) | (apply go_no; (case hc => simp))
    | refine go_exit ?_ | refine next_exit ?_ | refine inb_here ?_ | refine inb_past (by decide) ?_ | refine go_ret ?_ | refine next_ret ?_ | refine inb_ret ?_))
  refine go_while (σ := Nat × List (List UInt8)) (fun s => match s.1 with
      | 0 => [(1, .sl (l.map wrV)), (2, .int .i64 fuse), (3, .ptr 0 1 0 0), (6, .ptr 1 1 0 0), (9, .int .i64 0)]
      | i + 1 => [(1, .sl (l.map wrV)), (2, .int .i64 fuse), (3, .ptr 0 1 0 0), (6, .ptr 2 1 0 0), (9, .int .i64 ((i + 1 : Nat) : Int))])
    (fun s => match s.1 with
      | 0 => [.box (drv S B), .box (.agg [.own 2 0 0 0, .own 3 0 0 0]), .dat true 1 [], .dat true 1 []]
      | _ + 1 => [.box (.agg [.own 1 S.length 0 S.length, .sl (ints B)]), .dat true 1 (strs s.2), .box (.agg [.own 3 0 0 0, .own 4 0 0 0]), .dat true 1 [], .dat true 1 []])
    (fun s => s.1 ≤ l.length ∧ s.2.length = S.length ∧ (s.1 = 0 → s.2 = S) ∧ applyS B fuse s.2 s.1 (l.drop s.1) = R) (fun s => l.length - s.1) (0, S) (by simp) (by simpa using hR) fun ⟨i, T⟩ ⟨hi, hT, h0, hA⟩ => ?_
  simp only at hi hT h0 hA ⊢
  have hw : IntKind.i64.wrap ((i : Int) + 1) = (i : Int) + 1 := wrap_id (by omega) (by omega)
  cases hE : B.isEmpty
  all_goals
    rcases i with _ | i
    · have := h0 rfl
      subst this
      by_cases hlt : 0 < l.length
      · rw [List.drop_eq_getElem_cons hlt, applyS] at hA
        by_cases hf : (0 : Int) = fuse
        · subst hf
          rw [if_pos (show ((0 : Nat) : Int) = 0 from rfl)] at hA
          (repeat (first
    | (apply is_ok; (case hw => simp [hlt]); (case he => simp [hlt]; exact is_rfl))
    | (apply op_no; (case hw => simp [hlt]))
    | refine op_nil ?_ | refine next_normal ?_ | refine go_seq ?_ | refine go_region ?_ | refine go_skip ?_ | refine go_block ?_ | refine inb_normal ?_
    | (apply go_yes; (case hc => simp [hlt])) | (apply go_no; (case hc => simp [hlt]))
    | refine go_exit ?_ | refine next_exit ?_ | refine inb_here ?_ | refine inb_past (by decide) ?_ | refine go_ret ?_ | refine next_ret ?_ | refine inb_ret ?_))
          (apply ends_ok; (case h1 => simp; exact is_rfl); (case h2 => simp; exact is_rfl))
          subst hA
          simpa using hr
        · rw [if_neg (show ¬ ((0 : Nat) : Int) = fuse from hf)] at hA
          by_cases hz : faultI T.length B l[0] = 0
          · rw [if_pos hz] at hA
            have hW := WriteR_ok T B hS hBm l[0] hz
            (repeat (first
    | (apply is_ok; (case hw => simp [hlt, hf, hW, hE]); (case he => simp [hlt, hf, hW, hE]; exact is_rfl))
    | (apply op_no; (case hw => simp [hlt, hf, hW, hE]))
    | refine op_nil ?_ | refine next_normal ?_ | refine go_seq ?_ | refine go_region ?_ | refine go_skip ?_ | refine go_block ?_ | refine inb_normal ?_
    | (apply go_yes; (case hc => simp [hlt, hf, hW, hE])) | (apply go_no; (case hc => simp [hlt, hf, hW, hE]))
    | refine go_exit ?_ | refine next_exit ?_ | refine inb_here ?_ | refine inb_past (by decide) ?_ | refine go_ret ?_ | refine next_ret ?_ | refine inb_ret ?_))
            exact ⟨(1, putS T l[0]), by simp [putS, hE, show IntKind.i64.wrap 1 = 1 from rfl], by show l.length - 1 < l.length - 0; omega, by show 1 ≤ l.length; omega, putS_length, by simp, hA⟩
          · rw [if_neg hz] at hA
            have hW := WriteR_no T B hBm l[0] hz
            (repeat (first
    | (apply is_ok; (case hw => simp [hlt, hf, hW, hz, hE]); (case he => simp [hlt, hf, hW, hz, hE]; exact is_rfl))
    | (apply op_no; (case hw => simp [hlt, hf, hW, hz, hE]))
    | refine op_nil ?_ | refine next_normal ?_ | refine go_seq ?_ | refine go_region ?_ | refine go_skip ?_ | refine go_block ?_ | refine inb_normal ?_
    | (apply go_yes; (case hc => simp [hlt, hf, hW, hz, hE])) | (apply go_no; (case hc => simp [hlt, hf, hW, hz, hE]))
    | refine go_exit ?_ | refine next_exit ?_ | refine inb_here ?_ | refine inb_past (by decide) ?_ | refine go_ret ?_ | refine next_ret ?_ | refine inb_ret ?_))
            (apply ends_ok; (case h1 => simp; exact is_rfl); (case h2 => simp; exact is_rfl))
            subst hA
            simpa using hr
      · (repeat (first
    | (apply is_ok; (case hw => simp [hlt]); (case he => simp [hlt]; exact is_rfl))
    | (apply op_no; (case hw => simp [hlt]))
    | refine op_nil ?_ | refine next_normal ?_ | refine go_seq ?_ | refine go_region ?_ | refine go_skip ?_ | refine go_block ?_ | refine inb_normal ?_
    | (apply go_yes; (case hc => simp [hlt])) | (apply go_no; (case hc => simp [hlt]))
    | refine go_exit ?_ | refine next_exit ?_ | refine inb_here ?_ | refine inb_past (by decide) ?_ | refine go_ret ?_ | refine next_ret ?_ | refine inb_ret ?_))
        (apply ends_ok; (case h1 => simp; exact is_rfl); (case h2 => simp; exact is_rfl))
        have hl0 : l = [] := List.eq_nil_of_length_eq_zero (by omega)
        subst hl0
        simp only [List.drop_nil, applyS] at hA
        subst hA
        simpa using hr
    · clear h0
      dsimp only
      have hk0 : i + 1 ≠ 0 := by omega
      generalize hk : i + 1 = k at *
      by_cases hlt : k < l.length
      · rw [List.drop_eq_getElem_cons hlt, applyS] at hA
        by_cases hf : (k : Int) = fuse
        · subst hf
          rw [if_pos rfl] at hA
          (repeat (first
    | (apply is_ok; (case hw => simp [hlt]); (case he => simp [hlt]; exact is_rfl))
    | (apply op_no; (case hw => simp [hlt]))
    | refine op_nil ?_ | refine next_normal ?_ | refine go_seq ?_ | refine go_region ?_ | refine go_skip ?_ | refine go_block ?_ | refine inb_normal ?_
    | (apply go_yes; (case hc => simp [hlt])) | (apply go_no; (case hc => simp [hlt]))
    | refine go_exit ?_ | refine next_exit ?_ | refine inb_here ?_ | refine inb_past (by decide) ?_ | refine go_ret ?_ | refine next_ret ?_ | refine inb_ret ?_))
          (apply ends_ok; (case h1 => simp; exact is_rfl); (case h2 => simp; exact is_rfl))
          subst hA
          simpa [hk0] using hr
        · rw [if_neg hf] at hA
          by_cases hz : faultI T.length B l[k] = 0
          · rw [if_pos hz] at hA
            have hW := WriteR_ok T B (by omega) hBm l[k] hz
            rw [hT] at hW
            (repeat (first
    | (apply is_ok; (case hw => simp [hlt, hf, hW, hE, hT]); (case he => simp [hlt, hf, hW, hE, hT]; exact is_rfl))
    | (apply op_no; (case hw => simp [hlt, hf, hW, hE, hT]))
    | refine op_nil ?_ | refine next_normal ?_ | refine go_seq ?_ | refine go_region ?_ | refine go_skip ?_ | refine go_block ?_ | refine inb_normal ?_
    | (apply go_yes; (case hc => simp [hlt, hf, hW, hE, hT])) | (apply go_no; (case hc => simp [hlt, hf, hW, hE, hT]))
    | refine go_exit ?_ | refine next_exit ?_ | refine inb_here ?_ | refine inb_past (by decide) ?_ | refine go_ret ?_ | refine next_ret ?_ | refine inb_ret ?_))
            exact ⟨(k + 1, putS T l[k]), by simp [putS, hE, hT, hw], by show l.length - (k + 1) < l.length - k; omega, by show k + 1 ≤ l.length; omega, putS_length.trans hT, by simp, hA⟩
          · rw [if_neg hz] at hA
            have hW := WriteR_no T B hBm l[k] hz
            rw [hT] at hW hz hA
            (repeat (first
    | (apply is_ok; (case hw => simp [hlt, hf, hW, hz, hE, hT]); (case he => simp [hlt, hf, hW, hz, hE, hT]; exact is_rfl))
    | (apply op_no; (case hw => simp [hlt, hf, hW, hz, hE, hT]))
    | refine op_nil ?_ | refine next_normal ?_ | refine go_seq ?_ | refine go_region ?_ | refine go_skip ?_ | refine go_block ?_ | refine inb_normal ?_
    | (apply go_yes; (case hc => simp [hlt, hf, hW, hz, hE, hT])) | (apply go_no; (case hc => simp [hlt, hf, hW, hz, hE, hT]))
    | refine go_exit ?_ | refine next_exit ?_ | refine inb_here ?_ | refine inb_past (by decide) ?_ | refine go_ret ?_ | refine next_ret ?_ | refine inb_ret ?_))
            (apply ends_ok; (case h1 => simp; exact is_rfl); (case h2 => simp; exact is_rfl))
            subst hA
            simpa [hk0] using hr
      · (repeat (first
    | (apply is_ok; (case hw => simp [hlt]); (case he => simp [hlt]; exact is_rfl))
    | (apply op_no; (case hw => simp [hlt]))
    | refine op_nil ?_ | refine next_normal ?_ | refine go_seq ?_ | refine go_region ?_ | refine go_skip ?_ | refine go_block ?_ | refine inb_normal ?_
    | (apply go_yes; (case hc => simp [hlt])) | (apply go_no; (case hc => simp [hlt]))
    | refine go_exit ?_ | refine next_exit ?_ | refine inb_here ?_ | refine inb_past (by decide) ?_ | refine go_ret ?_ | refine next_ret ?_ | refine inb_ret ?_))
        (apply ends_ok; (case h1 => simp; exact is_rfl); (case h2 => simp; exact is_rfl))
        have hl0 : l.drop k = [] := List.drop_eq_nil_of_le (by omega)
        rw [hl0, applyS] at hA
        subst hA
        have : k = l.length := by omega
        have hl1 : l ≠ [] := fun h => by rw [h] at this; exact hk0 this
        simpa [this, hl1] using hr

end Go.Abs
