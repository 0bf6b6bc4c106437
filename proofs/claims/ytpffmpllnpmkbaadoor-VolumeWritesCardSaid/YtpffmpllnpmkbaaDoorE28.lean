/- Proved here: what functions of the program compute, over the evaluator. No condition but those that each theorem states. -/
import Derived.Test.YtpffmpllnpmkbaaDoorE27
namespace Go.Abs
open Go.Proofs
set_option maxRecDepth 100000
set_option linter.unusedSimpArgs false
set_option linter.unusedVariables false

/-- Is none of the first n sectors of the log bad? -/
def okB (B : List Int) : Nat → Bool
  | 0 => true
  | i + 1 => okB B i && decide ((2 + (i : Int)) ∉ B)
theorem okB_no {B : List Int} : ∀ {n i : Nat}, okB B (i + 1) = false → i < n → okB B n = false
  | 0, i, h, hi => by omega
  | n + 1, i, h, hi => by
    by_cases h1 : i = n
    · subst h1; exact h
    · rw [okB, okB_no h (by omega)]; rfl
def recW (S : List (List UInt8)) (ks : List Int) (n : Nat) : List (Int × List UInt8) := (List.range n).map fun i => (ks.getD i 0, S.getD (2 + i) [])
theorem recW_succ (S : List (List UInt8)) (ks : List Int) (n : Nat) : recW S ks (n + 1) = recW S ks n ++ [(ks.getD n 0, S.getD (2 + n) [])] := by simp [recW, List.range_succ]
theorem recW_length (S : List (List UInt8)) (ks : List Int) (n : Nat) : (recW S ks n).length = n := by simp [recW]
/-- The writes that complete a transaction. -/
def recS (S : List (List UInt8)) (B : List Int) : List (Int × List UInt8) × Int :=
  if VolP S B then if (1 : Int) ∈ B then ([], 21) else
    if (logS (S.length - swapW S) (S.getD 1 [])).2 = true then
      if (logS (S.length - swapW S) (S.getD 1 [])).1.length = 0 then ([], 0) else
        if okB B (logS (S.length - swapW S) (S.getD 1 [])).1.length = true then (recW S (logS (S.length - swapW S) (S.getD 1 [])).1 (logS (S.length - swapW S) (S.getD 1 [])).1.length ++ [(1, padS [])], 0) else ([], 21)
    else ([], 9)
  else ([], 9)
theorem logS_length (e : Int) (s : List UInt8) : (logS e s).1.length ≤ 16 := by
  unfold logS
  obtain ⟨n, hn, _⟩ := wd_nat s 0
  rw [hn]
  split
  · simp
  · split
    · rw [logK_length]; omega
    · simp

theorem Recover_eq (S : List (List UInt8)) (B : List Int) (hB : B.length ≤ maxLen) :
    bodyW DC 9 [drv S B] [] = some (.tuple [.own 0 (recS S B).1.length 0 (recS S B).1.length, .int .i64 (recS S B).2], [.dat true 2 ((recS S B).1.map wrV)]) := by
  obtain ⟨w, hs, hw⟩ := swapping_eq S B hB
  unfold recS
  by_cases hv : VolP S B
  case neg =>
    rw [decide_eq_false hv] at hs
    rw [if_neg hv]
    (refine gives_iff ?_; refine go_func Tryd.f9 rfl rfl (by simp [Tryd.f9]) ?_; dsimp only [codeL, Tryd.f9, scL, sopsL, guardL, dstAt, loopKey])
    (repeat (first
    | (apply is_ok; (case hw => simp [hs]); (case he => simp [hs]; exact is_rfl))
    | (apply op_no; (case hw => simp [hs]))
    | refine op_nil ?_ | refine next_normal ?_ | refine go_seq ?_ | refine go_region ?_ | refine go_skip ?_ | refine go_block ?_ | refine inb_normal ?_
    | (apply go_yes; (case hc => simp [hs])) | (apply go_no; (case hc => simp [hs]))
    | refine go_exit ?_ | refine next_exit ?_ | refine inb_here ?_ | refine inb_past (by decide) ?_ | refine go_ret ?_ | refine next_ret ?_ | refine inb_ret ?_))
    (apply ends_ok; (case h1 => simp; exact is_rfl); (case h2 => simp; exact is_rfl))
    simp
  rw [if_pos hv]
  rw [decide_eq_true hv] at hs
  have hb := vol_bounds hv
  have hR := Read_eq S B hB
  have hR1 := hR 1
  by_cases h1 : (1 : Int) ∈ B
  · have e : readS S B 1 = ([], 21) := by unfold readS; rw [if_pos (by omega), if_pos h1]
    rw [e] at hR1
    rw [if_pos h1]
    (refine gives_iff ?_; refine go_func Tryd.f9 rfl rfl (by simp [Tryd.f9]) ?_; dsimp only [codeL, Tryd.f9, scL, sopsL, guardL, dstAt, loopKey])
    (repeat (first
    | (apply is_ok; (case hw => simp [hs, hR1]); (case he => simp [hs, hR1]; exact is_rfl))
    | (apply op_no; (case hw => simp [hs, hR1]))
    | refine op_nil ?_ | refine next_normal ?_ | refine go_seq ?_ | refine go_region ?_ | refine go_skip ?_ | refine go_block ?_ | refine inb_normal ?_
    | (apply go_yes; (case hc => simp [hs, hR1])) | (apply go_no; (case hc => simp [hs, hR1]))
    | refine go_exit ?_ | refine next_exit ?_ | refine inb_here ?_ | refine inb_past (by decide) ?_ | refine go_ret ?_ | refine next_ret ?_ | refine inb_ret ?_))
    (apply ends_ok; (case h1 => simp; exact is_rfl); (case h2 => simp; exact is_rfl))
    simp
  rw [if_neg h1]
  have e : readS S B 1 = (S.getD 1 [], 0) := by unfold readS; rw [if_pos (by omega), if_neg h1]; rfl
  rw [e] at hR1
  have hL := logged_eq S B hB hv (S.getD 1 []) (by rw [getD_at (by omega)]; exact hv.1.2.2.1 _ (List.getElem_mem _))
  have hL2 := logS_length (S.length - swapW S) (S.getD 1 [])
  generalize S.getD 1 [] = s at hR1 hL hL2 ⊢
  generalize logS (S.length - swapW S) s = p at hL hL2 ⊢
  obtain ⟨ks, ok⟩ := p
  dsimp only at hL hL2 ⊢
  cases ok with
  | false =>
    (refine gives_iff ?_; refine go_func Tryd.f9 rfl rfl (by simp [Tryd.f9]) ?_; dsimp only [codeL, Tryd.f9, scL, sopsL, guardL, dstAt, loopKey])
    (repeat (first
    | (apply is_ok; (case hw => simp [hs, hR1, hL]); (case he => simp [hs, hR1, hL]; exact is_rfl))
    | (apply op_no; (case hw => simp [hs, hR1, hL]))
    | refine op_nil ?_ | refine next_normal ?_ | refine go_seq ?_ | refine go_region ?_ | refine go_skip ?_ | refine go_block ?_ | refine inb_normal ?_
    | (apply go_yes; (case hc => simp [hs, hR1, hL])) | (apply go_no; (case hc => simp [hs, hR1, hL]))
    | refine go_exit ?_ | refine next_exit ?_ | refine inb_here ?_ | refine inb_past (by decide) ?_ | refine go_ret ?_ | refine next_ret ?_ | refine inb_ret ?_))
    (apply ends_ok; (case h1 => simp; exact is_rfl); (case h2 => simp; exact is_rfl))
    simp
  | true =>
    rw [if_pos rfl]
    by_cases h0 : ks.length = 0
    · rw [if_pos h0]
      (refine gives_iff ?_; refine go_func Tryd.f9 rfl rfl (by simp [Tryd.f9]) ?_; dsimp only [codeL, Tryd.f9, scL, sopsL, guardL, dstAt, loopKey])
      (repeat (first
    | (apply is_ok; (case hw => simp [hs, hR1, hL, h0]); (case he => simp [hs, hR1, hL, h0]; exact is_rfl))
    | (apply op_no; (case hw => simp [hs, hR1, hL, h0]))
    | refine op_nil ?_ | refine next_normal ?_ | refine go_seq ?_ | refine go_region ?_ | refine go_skip ?_ | refine go_block ?_ | refine inb_normal ?_
    | (apply go_yes; (case hc => simp [hs, hR1, hL, h0])) | (apply go_no; (case hc => simp [hs, hR1, hL, h0]))
    | refine go_exit ?_ | refine next_exit ?_ | refine inb_here ?_ | refine inb_past (by decide) ?_ | refine go_ret ?_ | refine next_ret ?_ | refine inb_ret ?_))
      (apply ends_ok; (case h1 => simp; exact is_rfl); (case h2 => simp; exact is_rfl))
      simp
    rw [if_neg h0]
    generalize hRR : (if okB B ks.length = true then (recW S ks ks.length ++ [(1, padS [])], (0 : Int)) else ([], 21)) = R
    have hbl := blank_pad
    (refine gives_iff ?_; refine go_func Tryd.f9 rfl rfl (by simp [Tryd.f9]) ?_; dsimp only [codeL, Tryd.f9, scL, sopsL, guardL, dstAt, loopKey])
    (repeat (first
    | (apply is_ok; (case hw => simp [hs, hR1, hL, h0]); (case he => simp [hs, hR1, hL, h0]; exact is_rfl))
    | (apply op_no; (case hw => simp [hs, hR1, hL, h0]))
    | refine op_nil ?_ | refine next_normal ?_ | refine go_seq ?_ | refine go_region ?_ | refine go_skip ?_ | refine go_block ?_ | refine inb_normal ?_
    | (apply go_yes; (case hc => simp [hs, hR1, hL, h0])) | (apply go_no; (case hc => simp [hs, hR1, hL, h0]))
    | refine go_exit ?_ | refine next_exit ?_ | refine inb_here ?_ | refine inb_past (by decide) ?_ | refine go_ret ?_ | refine next_ret ?_ | refine inb_ret ?_))
    refine go_count ks.length (fun i => [(1, .ptr 0 1 0 0), (10, .own 1 i 0 i), (41, .own 2 ks.length 0 ks.length), (42, .int .i64 ks.length), (43, .int .i64 i)])
      (fun i => [.box (drv S B), .dat true 2 ((recW S ks i).map wrV), .dat true 1 (ints ks)]) (fun i => okB B i = true) (by simp [recW]) rfl fun i hi hI => ?_
    have hll := recW_length S ks i
    by_cases hlt : i < ks.length
    · have hw1 : IntKind.i64.wrap ((i : Int) + 1) = (i : Int) + 1 := wrap_id (by omega) (by omega)
      have hw2 : IntKind.i64.wrap (2 + (i : Int)) = 2 + (i : Int) := wrap_id (by omega) (by omega)
      have hRi := hR (2 + (i : Int))
      have hok : okB B (i + 1) = decide ((2 + (i : Int)) ∉ B) := by rw [okB, hI]; simp
      have hno := @okB_no B ks.length i
      by_cases h2 : (2 + (i : Int)) ∈ B
      · have e : readS S B (2 + (i : Int)) = ([], 21) := by unfold readS; rw [if_pos (by omega), if_pos h2]
        rw [e] at hRi
        rw [hno (by rw [hok]; simp [h2]) hlt] at hRR
        subst hRR
        (repeat (first
    | (apply is_ok; (case hw => simp [hlt, hw2, hRi, hll]); (case he => simp [hlt, hw2, hRi, hll]; exact is_rfl))
    | (apply op_no; (case hw => simp [hlt, hw2, hRi, hll]))
    | refine op_nil ?_ | refine next_normal ?_ | refine go_seq ?_ | refine go_region ?_ | refine go_skip ?_ | refine go_block ?_ | refine inb_normal ?_
    | (apply go_yes; (case hc => simp [hlt, hw2, hRi, hll])) | (apply go_no; (case hc => simp [hlt, hw2, hRi, hll]))
    | refine go_exit ?_ | refine next_exit ?_ | refine inb_here ?_ | refine inb_past (by decide) ?_ | refine go_ret ?_ | refine next_ret ?_ | refine inb_ret ?_))
        (apply ends_ok; (case h1 => simp; exact is_rfl); (case h2 => simp; exact is_rfl))
        simp
      · have e : readS S B (2 + (i : Int)) = (S.getD (2 + i) [], 0) := by unfold readS; rw [if_pos (by omega), if_neg h2]; rfl
        rw [e] at hRi
        rw [recW_succ, getD_at hlt]
        generalize S.getD (2 + i) [] = t at hRi
        generalize recW S ks i = W at hll
        have r1 : (i + 1) * 24 ≤ room := by unfold room; omega
        have r2 : i + 1 ≤ room := by unfold room; omega
        (repeat (first
    | (apply is_ok; (case hw => simp [hlt, hw2, hRi, hll, r1, r2]); (case he => simp [hlt, hw2, hRi, hll, r1, r2]; exact is_rfl))
    | (apply op_no; (case hw => simp [hlt, hw2, hRi, hll, r1, r2]))
    | refine op_nil ?_ | refine next_normal ?_ | refine go_seq ?_ | refine go_region ?_ | refine go_skip ?_ | refine go_block ?_ | refine inb_normal ?_
    | (apply go_yes; (case hc => simp [hlt, hw2, hRi, hll, r1, r2])) | (apply go_no; (case hc => simp [hlt, hw2, hRi, hll, r1, r2]))
    | refine go_exit ?_ | refine next_exit ?_ | refine inb_here ?_ | refine inb_past (by decide) ?_ | refine go_ret ?_ | refine next_ret ?_ | refine inb_ret ?_))
        exact ⟨hlt, by simp [hw1], by rw [hok]; simp [h2]⟩
    · have hin : i = ks.length := by omega
      subst hin
      rw [hI, if_pos rfl] at hRR
      subst hRR
      generalize padS [] = zz at hbl
      generalize recW S ks ks.length = W at hll
      have r1 : (ks.length + 1) * 24 ≤ room := by unfold room; omega
      have r2 : ks.length + 1 ≤ room := by unfold room; omega
      (repeat (first
    | (apply is_ok; (case hw => simp [hlt, hbl, hll, r1, r2]); (case he => simp [hlt, hbl, hll, r1, r2]; exact is_rfl))
    | (apply op_no; (case hw => simp [hlt, hbl, hll, r1, r2]))
    | refine op_nil ?_ | refine next_normal ?_ | refine go_seq ?_ | refine go_region ?_ | refine go_skip ?_ | refine go_block ?_ | refine inb_normal ?_
    | (apply go_yes; (case hc => simp [hlt, hbl, hll, r1, r2])) | (apply go_no; (case hc => simp [hlt, hbl, hll, r1, r2]))
    | refine go_exit ?_ | refine next_exit ?_ | refine inb_here ?_ | refine inb_past (by decide) ?_ | refine go_ret ?_ | refine next_ret ?_ | refine inb_ret ?_))
      (apply ends_ok; (case h1 => simp; exact is_rfl); (case h2 => simp; exact is_rfl))
      simp [hll]

theorem RecoverR_eq (S : List (List UInt8)) (B : List Int) (hB : B.length ≤ maxLen) :
    bodyW DC 10 [drv S B] [] = some (.tuple [.own 0 (recS S B).1.length 0 (recS S B).1.length, .int .i64 (recS S B).2], [.dat true 2 ((recS S B).1.map wrV)]) := by
  have hs := LayoutR_eq S B hB
  unfold recS
  by_cases hv : VolP S B
  case neg =>
    rw [layV_no hv] at hs
    rw [if_neg hv]
    (refine gives_iff ?_; refine go_func Tryd.f10 rfl rfl (by simp [Tryd.f10]) ?_; dsimp only [codeL, Tryd.f10, scL, sopsL, guardL, dstAt, loopKey])
    (repeat (first
    | (apply is_ok; (case hw => simp [hs]); (case he => simp [hs]; exact is_rfl))
    | (apply op_no; (case hw => simp [hs]))
    | refine op_nil ?_ | refine next_normal ?_ | refine go_seq ?_ | refine go_region ?_ | refine go_skip ?_ | refine go_block ?_ | refine inb_normal ?_
    | (apply go_yes; (case hc => simp [hs])) | (apply go_no; (case hc => simp [hs]))
    | refine go_exit ?_ | refine next_exit ?_ | refine inb_here ?_ | refine inb_past (by decide) ?_ | refine go_ret ?_ | refine next_ret ?_ | refine inb_ret ?_))
    (apply ends_ok; (case h1 => simp; exact is_rfl); (case h2 => simp; exact is_rfl))
    simp
  rw [if_pos hv]
  rw [layV_yes hv] at hs
  have hb := vol_bounds hv
  have hR := bad_eq S B hB
  have hR1 := hR 1
  by_cases h1 : (1 : Int) ∈ B
  · rw [decide_eq_true h1] at hR1
    rw [if_pos h1]
    (refine gives_iff ?_; refine go_func Tryd.f10 rfl rfl (by simp [Tryd.f10]) ?_; dsimp only [codeL, Tryd.f10, scL, sopsL, guardL, dstAt, loopKey])
    (repeat (first
    | (apply is_ok; (case hw => simp [hs, hR1]); (case he => simp [hs, hR1]; exact is_rfl))
    | (apply op_no; (case hw => simp [hs, hR1]))
    | refine op_nil ?_ | refine next_normal ?_ | refine go_seq ?_ | refine go_region ?_ | refine go_skip ?_ | refine go_block ?_ | refine inb_normal ?_
    | (apply go_yes; (case hc => simp [hs, hR1])) | (apply go_no; (case hc => simp [hs, hR1]))
    | refine go_exit ?_ | refine next_exit ?_ | refine inb_here ?_ | refine inb_past (by decide) ?_ | refine go_ret ?_ | refine next_ret ?_ | refine inb_ret ?_))
    (apply ends_ok; (case h1 => simp; exact is_rfl); (case h2 => simp; exact is_rfl))
    simp
  rw [if_neg h1]
  rw [decide_eq_false h1] at hR1
  have hl1 : 1 < S.length := by omega
  have hL := sectors37_eq (S.length - swapW S) (S.getD 1 []) (by rw [getD_at (by omega)]; exact hv.1.2.2.1 _ (List.getElem_mem _))
  have hL2 := logS_length (S.length - swapW S) (S.getD 1 [])
  have hS1 : S[1]? = some (S.getD 1 []) := by rw [getD_at (by omega), List.getElem?_eq_getElem (by omega)]
  have hS1' : ∀ h, S[1]'h = S.getD 1 [] := fun h => by rw [getD_at (by omega)]
  generalize S.getD 1 [] = s at hL hL2 hS1 hS1' ⊢
  generalize hN : (S.length : Int) - swapW S = n at hs hL hL2 ⊢
  generalize logS n s = p at hL hL2 ⊢
  obtain ⟨ks, ok⟩ := p
  dsimp only at hL hL2 ⊢
  cases ok with
  | false =>
    (refine gives_iff ?_; refine go_func Tryd.f10 rfl rfl (by simp [Tryd.f10]) ?_; dsimp only [codeL, Tryd.f10, scL, sopsL, guardL, dstAt, loopKey])
    (repeat (first
    | (apply is_ok; (case hw => simp [hs, hR1, hL, hS1, hS1', hl1]); (case he => simp [hs, hR1, hL, hS1, hS1', hl1]; exact is_rfl))
    | (apply op_no; (case hw => simp [hs, hR1, hL, hS1, hS1', hl1]))
    | refine op_nil ?_ | refine next_normal ?_ | refine go_seq ?_ | refine go_region ?_ | refine go_skip ?_ | refine go_block ?_ | refine inb_normal ?_
    | (apply go_yes; (case hc => simp [hs, hR1, hL, hS1, hS1', hl1])) | (apply go_no; (case hc => simp [hs, hR1, hL, hS1, hS1', hl1]))
    | refine go_exit ?_ | refine next_exit ?_ | refine inb_here ?_ | refine inb_past (by decide) ?_ | refine go_ret ?_ | refine next_ret ?_ | refine inb_ret ?_))
    (apply ends_ok; (case h1 => simp; exact is_rfl); (case h2 => simp; exact is_rfl))
    simp
  | true =>
    rw [if_pos rfl]
    by_cases h0 : ks.length = 0
    · rw [if_pos h0]
      (refine gives_iff ?_; refine go_func Tryd.f10 rfl rfl (by simp [Tryd.f10]) ?_; dsimp only [codeL, Tryd.f10, scL, sopsL, guardL, dstAt, loopKey])
      (repeat (first
    | (apply is_ok; (case hw => simp [hs, hR1, hL, hS1, hS1', hl1, h0]); (case he => simp [hs, hR1, hL, hS1, hS1', hl1, h0]; exact is_rfl))
    | (apply op_no; (case hw => simp [hs, hR1, hL, hS1, hS1', hl1, h0]))
    | refine op_nil ?_ | refine next_normal ?_ | refine go_seq ?_ | refine go_region ?_ | refine go_skip ?_ | refine go_block ?_ | refine inb_normal ?_
    | (apply go_yes; (case hc => simp [hs, hR1, hL, hS1, hS1', hl1, h0])) | (apply go_no; (case hc => simp [hs, hR1, hL, hS1, hS1', hl1, h0]))
    | refine go_exit ?_ | refine next_exit ?_ | refine inb_here ?_ | refine inb_past (by decide) ?_ | refine go_ret ?_ | refine next_ret ?_ | refine inb_ret ?_))
      (apply ends_ok; (case h1 => simp; exact is_rfl); (case h2 => simp; exact is_rfl))
      simp
    rw [if_neg h0]
    generalize hRR : (if okB B ks.length = true then (recW S ks ks.length ++ [(1, padS [])], (0 : Int)) else ([], 21)) = R
    have hbl := zeros37_eq [] (by simp)
    (refine gives_iff ?_; refine go_func Tryd.f10 rfl rfl (by simp [Tryd.f10]) ?_; dsimp only [codeL, Tryd.f10, scL, sopsL, guardL, dstAt, loopKey])
    (repeat (first
    | (apply is_ok; (case hw => simp [hs, hR1, hL, hS1, hS1', hl1, h0]); (case he => simp [hs, hR1, hL, hS1, hS1', hl1, h0]; exact is_rfl))
    | (apply op_no; (case hw => simp [hs, hR1, hL, hS1, hS1', hl1, h0]))
    | refine op_nil ?_ | refine next_normal ?_ | refine go_seq ?_ | refine go_region ?_ | refine go_skip ?_ | refine go_block ?_ | refine inb_normal ?_
    | (apply go_yes; (case hc => simp [hs, hR1, hL, hS1, hS1', hl1, h0])) | (apply go_no; (case hc => simp [hs, hR1, hL, hS1, hS1', hl1, h0]))
    | refine go_exit ?_ | refine next_exit ?_ | refine inb_here ?_ | refine inb_past (by decide) ?_ | refine go_ret ?_ | refine next_ret ?_ | refine inb_ret ?_))
    refine go_count ks.length (fun i => [(1, .ptr 0 1 0 0), (7, .own 1 ks.length 0 ks.length), (9, .own 2 i 0 i), (10, .int .i64 i)])
      (fun i => [.box (drv S B), .dat true 1 (ints ks), .dat true 2 ((recW S ks i).map wrV)]) (fun i => okB B i = true) (by simp [recW]) rfl fun i hi hI => ?_
    have hll := recW_length S ks i
    by_cases hlt : i < ks.length
    · have hw1 : IntKind.i64.wrap ((i : Int) + 1) = (i : Int) + 1 := wrap_id (by omega) (by omega)
      have hw2 : IntKind.i64.wrap (2 + (i : Int)) = 2 + (i : Int) := wrap_id (by omega) (by omega)
      have hRi := hR (2 + (i : Int))
      have hok : okB B (i + 1) = decide ((2 + (i : Int)) ∉ B) := by rw [okB, hI]; simp
      have hno := @okB_no B ks.length i
      by_cases h2 : (2 + (i : Int)) ∈ B
      · rw [decide_eq_true h2] at hRi
        rw [hno (by rw [hok]; simp [h2]) hlt] at hRR
        subst hRR
        (repeat (first
    | (apply is_ok; (case hw => simp [hlt, hw2, hRi, hll]); (case he => simp [hlt, hw2, hRi, hll]; exact is_rfl))
    | (apply op_no; (case hw => simp [hlt, hw2, hRi, hll]))
    | refine op_nil ?_ | refine next_normal ?_ | refine go_seq ?_ | refine go_region ?_ | refine go_skip ?_ | refine go_block ?_ | refine inb_normal ?_
    | (apply go_yes; (case hc => simp [hlt, hw2, hRi, hll])) | (apply go_no; (case hc => simp [hlt, hw2, hRi, hll]))
    | refine go_exit ?_ | refine next_exit ?_ | refine inb_here ?_ | refine inb_past (by decide) ?_ | refine go_ret ?_ | refine next_ret ?_ | refine inb_ret ?_))
        (apply ends_ok; (case h1 => simp; exact is_rfl); (case h2 => simp; exact is_rfl))
        simp
      · rw [decide_eq_false h2] at hRi
        have hl2 : 2 + i < S.length := by omega
        have c1 : (0 : Int) ≤ 2 + (i : Int) := by omega
        have c2 : (2 + (i : Int)).toNat = 2 + i := by omega
        have hS2 : S[2 + i]? = some (S.getD (2 + i) []) := by rw [getD_at (by omega), List.getElem?_eq_getElem (by omega)]
        have hS2' : ∀ h, S[2 + i]'h = S.getD (2 + i) [] := fun h => by rw [getD_at (by omega)]
        rw [recW_succ, getD_at hlt]
        generalize S.getD (2 + i) [] = t at hS2 hS2'
        generalize recW S ks i = W at hll
        have r1 : (i + 1) * 24 ≤ room := by unfold room; omega
        have r2 : i + 1 ≤ room := by unfold room; omega
        (repeat (first
    | (apply is_ok; (case hw => simp [hlt, hw2, hRi, hll, hl2, c1, c2, hS2, hS2', r1, r2]); (case he => simp [hlt, hw2, hRi, hll, hl2, c1, c2, hS2, hS2', r1, r2]; exact is_rfl))
    | (apply op_no; (case hw => simp [hlt, hw2, hRi, hll, hl2, c1, c2, hS2, hS2', r1, r2]))
    | refine op_nil ?_ | refine next_normal ?_ | refine go_seq ?_ | refine go_region ?_ | refine go_skip ?_ | refine go_block ?_ | refine inb_normal ?_
    | (apply go_yes; (case hc => simp [hlt, hw2, hRi, hll, hl2, c1, c2, hS2, hS2', r1, r2])) | (apply go_no; (case hc => simp [hlt, hw2, hRi, hll, hl2, c1, c2, hS2, hS2', r1, r2]))
    | refine go_exit ?_ | refine next_exit ?_ | refine inb_here ?_ | refine inb_past (by decide) ?_ | refine go_ret ?_ | refine next_ret ?_ | refine inb_ret ?_))
        exact ⟨hlt, by simp [hw1], by rw [hok]; simp [h2]⟩
    · have hin : i = ks.length := by omega
      subst hin
      rw [hI, if_pos rfl] at hRR
      subst hRR
      generalize padS [] = zz at hbl
      generalize recW S ks ks.length = W at hll
      have r1 : (ks.length + 1) * 24 ≤ room := by unfold room; omega
      have r2 : ks.length + 1 ≤ room := by unfold room; omega
      (repeat (first
    | (apply is_ok; (case hw => simp [hlt, hbl, hll, r1, r2]); (case he => simp [hlt, hbl, hll, r1, r2]; exact is_rfl))
    | (apply op_no; (case hw => simp [hlt, hbl, hll, r1, r2]))
    | refine op_nil ?_ | refine next_normal ?_ | refine go_seq ?_ | refine go_region ?_ | refine go_skip ?_ | refine go_block ?_ | refine inb_normal ?_
    | (apply go_yes; (case hc => simp [hlt, hbl, hll, r1, r2])) | (apply go_no; (case hc => simp [hlt, hbl, hll, r1, r2]))
    | refine go_exit ?_ | refine next_exit ?_ | refine inb_here ?_ | refine inb_past (by decide) ?_ | refine go_ret ?_ | refine next_ret ?_ | refine inb_ret ?_))
      (apply ends_ok; (case h1 => simp; exact is_rfl); (case h2 => simp; exact is_rfl))
      simp [hll]
end Go.Abs
