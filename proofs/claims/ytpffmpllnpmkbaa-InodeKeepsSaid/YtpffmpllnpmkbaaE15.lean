/- Proved here: what functions of the program compute, over the evaluator. No condition but those that each theorem states. -/
import Derived.Test.YtpffmpllnpmkbaaE14
namespace Go.Abs
open Go.Proofs
set_option maxRecDepth 100000
set_option linter.unusedSimpArgs false
set_option linter.unusedVariables false

/-- The numbers from 27 on, n of them, whose bits are not set. -/
def freeL (s : List UInt8) (n : Nat) : List Int := ((List.range n).filter fun i => !bitB s (27 + i)).map fun i => ((27 + i : Nat) : Int)
theorem freeL_succ (s : List UInt8) (n : Nat) : freeL s (n + 1) = if bitB s (27 + n) = true then freeL s n else freeL s n ++ [((27 + n : Nat) : Int)] := by
  unfold freeL
  rw [List.range_succ, List.filter_append, List.map_append]
  by_cases h : bitB s (27 + n) = true <;> simp [h]
theorem freeL_length (s : List UInt8) (n : Nat) : (freeL s n).length ≤ n := by
  unfold freeL
  rw [List.length_map]
  exact Nat.le_trans (List.length_filter_le _ _) (by simp)
def freeN (S : List (List UInt8)) : Nat := ((S.length : Int) - swapW S - 27).toNat
theorem freeN_eq {S : List (List UInt8)} {B : List Int} (h : VolP S B) : (S.length : Int) - swapW S - 27 = (freeN S : Nat) ∧ freeN S ≤ 229 := by
  have := vol_bounds h
  unfold freeN
  omega

theorem Free_ok (S : List (List UInt8)) (B : List Int) (hB : B.length ≤ maxLen) (h : (mapS S B).2 = 0) :
    bodyW DC 21 [drv S B] [] = some (.tuple [.own 0 (freeL (mapS S B).1 (freeN S)).length 0 (freeL (mapS S B).1 (freeN S)).length, .int .i64 0], [.dat true 1 (ints (freeL (mapS S B).1 (freeN S)))]) := by
  have hb := bits_ok S B hB h
  obtain ⟨hv, hl⟩ := map_ok h
  obtain ⟨hn, hn2⟩ := freeN_eq hv
  rw [hn] at hb
  generalize freeN S = n at hb hn2
  generalize (mapS S B).1 = s at hb hl
  have hu : (u8s s).length = 128 := by simp [hl]
  (refine gives_iff ?_; refine go_func Try.f21 rfl rfl (by simp [Try.f21]) ?_; dsimp only [codeL, Try.f21, scL, sopsL, guardL, dstAt, loopKey])
  (repeat (first
    | (apply is_ok; (case hw => simp [hb]); (case he => simp [hb]; exact is_rfl))
    | (apply op_no; (case hw => simp [hb]))
    | refine op_nil ?_ | refine next_normal ?_ | refine go_seq ?_ | refine go_region ?_ | refine go_skip ?_ | refine go_block ?_ | refine inb_normal ?_
    | (apply go_yes; (case hc => simp [hb])) | (apply go_no; (case hc => simp [hb]))
    | refine go_exit ?_ | refine next_exit ?_ | refine inb_here ?_ | refine inb_past (by decide) ?_ | refine go_ret ?_ | refine next_ret ?_ | refine inb_ret ?_))
  refine go_count n (fun i => [(4, .ptr 0 1 0 0), (5, .own 1 128 0 128), (7, .own 2 (freeL s i).length 0 (freeL s i).length), (8, .int .i64 ((27 + i : Nat) : Int))])
    (fun i => [.box (extV 27 (n : Int)), .dat true 1 (u8s s), .dat true 1 (ints (freeL s i))]) (fun _ => True) (by simp [freeL]) trivial fun i hi _ => ?_
  have hs := freeL_succ s i
  have hL := freeL_length s i
  have hset := set_eq s (27 + i) (by omega) (by omega)
  have w1 : IntKind.i64.wrap (27 + (n : Int)) = 27 + n := wrap_id (by omega) (by omega)
  generalize hj : 27 + i = j at hs hset
  have w2 : IntKind.i64.wrap ((j : Int) + 1) = ((j + 1 : Nat) : Int) := wrap_id (by omega) (by omega)
  have hj1 : 27 + (i + 1) = j + 1 := by omega
  have r1 : ((freeL s i).length + 1) * 8 ≤ room := by unfold room; omega
  have r2 : (freeL s i).length + 1 ≤ room := by unfold room; omega
  by_cases hlt : (j : Int) < 27 + n
  · by_cases hbt : bitB s j = true
    · rw [if_pos hbt] at hs
      rw [hbt] at hset
      (repeat (first
    | (apply is_ok; (case hw => simp [w1, hlt, hu, hset]); (case he => simp [w1, hlt, hu, hset]; exact is_rfl))
    | (apply op_no; (case hw => simp [w1, hlt, hu, hset]))
    | refine op_nil ?_ | refine next_normal ?_ | refine go_seq ?_ | refine go_region ?_ | refine go_skip ?_ | refine go_block ?_ | refine inb_normal ?_
    | (apply go_yes; (case hc => simp [w1, hlt, hu, hset])) | (apply go_no; (case hc => simp [w1, hlt, hu, hset]))
    | refine go_exit ?_ | refine next_exit ?_ | refine inb_here ?_ | refine inb_past (by decide) ?_ | refine go_ret ?_ | refine next_ret ?_ | refine inb_ret ?_))
      exact ⟨by omega, by simp [hs, w2, hj1], trivial⟩
    · rw [if_neg hbt] at hs
      rw [show bitB s j = false by simpa using hbt] at hset
      (repeat (first
    | (apply is_ok; (case hw => simp [w1, hlt, hu, hset, r1, r2]); (case he => simp [w1, hlt, hu, hset, r1, r2]; exact is_rfl))
    | (apply op_no; (case hw => simp [w1, hlt, hu, hset, r1, r2]))
    | refine op_nil ?_ | refine next_normal ?_ | refine go_seq ?_ | refine go_region ?_ | refine go_skip ?_ | refine go_block ?_ | refine inb_normal ?_
    | (apply go_yes; (case hc => simp [w1, hlt, hu, hset, r1, r2])) | (apply go_no; (case hc => simp [w1, hlt, hu, hset, r1, r2]))
    | refine go_exit ?_ | refine next_exit ?_ | refine inb_here ?_ | refine inb_past (by decide) ?_ | refine go_ret ?_ | refine next_ret ?_ | refine inb_ret ?_))
      exact ⟨by omega, by simp [hs, w2, hj1], trivial⟩
  · have hin : i = n := by omega
    subst hin
    (repeat (first
    | (apply is_ok; (case hw => simp [w1, hlt]); (case he => simp [w1, hlt]; exact is_rfl))
    | (apply op_no; (case hw => simp [w1, hlt]))
    | refine op_nil ?_ | refine next_normal ?_ | refine go_seq ?_ | refine go_region ?_ | refine go_skip ?_ | refine go_block ?_ | refine inb_normal ?_
    | (apply go_yes; (case hc => simp [w1, hlt])) | (apply go_no; (case hc => simp [w1, hlt]))
    | refine go_exit ?_ | refine next_exit ?_ | refine inb_here ?_ | refine inb_past (by decide) ?_ | refine go_ret ?_ | refine next_ret ?_ | refine inb_ret ?_))
    (apply ends_ok; (case h1 => simp; exact is_rfl); (case h2 => simp; exact is_rfl))
    simp
theorem Free_no (S : List (List UInt8)) (B : List Int) (hB : B.length ≤ maxLen) (h : (mapS S B).2 ≠ 0) : bodyW DC 21 [drv S B] [] = some (.tuple [.own 0 0 0 0, .int .i64 (mapS S B).2], [.dat true 1 []]) := by
  have hb := bits_no S B hB h
  generalize (mapS S B).2 = e at hb h
  (refine gives_iff ?_; refine go_func Try.f21 rfl rfl (by simp [Try.f21]) ?_; dsimp only [codeL, Try.f21, scL, sopsL, guardL, dstAt, loopKey])
  (repeat (first
    | (apply is_ok; (case hw => simp [hb, h]); (case he => simp [hb, h]; exact is_rfl))
    | (apply op_no; (case hw => simp [hb, h]))
    | refine op_nil ?_ | refine next_normal ?_ | refine go_seq ?_ | refine go_region ?_ | refine go_skip ?_ | refine go_block ?_ | refine inb_normal ?_
    | (apply go_yes; (case hc => simp [hb, h])) | (apply go_no; (case hc => simp [hb, h]))
    | refine go_exit ?_ | refine next_exit ?_ | refine inb_here ?_ | refine inb_past (by decide) ?_ | refine go_ret ?_ | refine next_ret ?_ | refine inb_ret ?_))
  (apply ends_ok; (case h1 => simp; exact is_rfl); (case h2 => simp; exact is_rfl))
  simp
theorem FreeR_ok (S : List (List UInt8)) (B : List Int) (hB : B.length ≤ maxLen) (h : (mapS S B).2 = 0) :
    bodyW DC 22 [drv S B] [] = some (.tuple [.own 0 (freeL (mapS S B).1 (freeN S)).length 0 (freeL (mapS S B).1 (freeN S)).length, .int .i64 0], [.dat true 1 (ints (freeL (mapS S B).1 (freeN S)))]) := by
  obtain ⟨a, b, hb, hab⟩ := bitmap_eq S B hB
  obtain ⟨rfl, rfl⟩ := hab h
  obtain ⟨hv, hl⟩ := map_ok h
  obtain ⟨hn, hn2⟩ := freeN_eq hv
  rw [hn, h] at hb
  clear hab
  generalize freeN S = n at hb hn2
  generalize (mapS S B).1 = s at hb hl
  (refine gives_iff ?_; refine go_func Try.f22 rfl rfl (by simp [Try.f22]) ?_; dsimp only [codeL, Try.f22, scL, sopsL, guardL, dstAt, loopKey])
  (repeat (first
    | (apply is_ok; (case hw => simp [hb]); (case he => simp [hb]; exact is_rfl))
    | (apply op_no; (case hw => simp [hb]))
    | refine op_nil ?_ | refine next_normal ?_ | refine go_seq ?_ | refine go_region ?_ | refine go_skip ?_ | refine go_block ?_ | refine inb_normal ?_
    | (apply go_yes; (case hc => simp [hb])) | (apply go_no; (case hc => simp [hb]))
    | refine go_exit ?_ | refine next_exit ?_ | refine inb_here ?_ | refine inb_past (by decide) ?_ | refine go_ret ?_ | refine next_ret ?_ | refine inb_ret ?_))
  refine go_count n (fun i => [(4, .ptr 0 1 0 0), (5, .str s), (7, .own 1 (freeL s i).length 0 (freeL s i).length), (8, .int .i64 ((27 + i : Nat) : Int))])
    (fun i => [.box (extV 27 (n : Int)), .dat true 1 (ints (freeL s i))]) (fun _ => True) (by simp [freeL]) trivial fun i hi _ => ?_
  have hs := freeL_succ s i
  have hL := freeL_length s i
  have hset := bit_eq s (27 + i) (by omega) (by omega)
  have w1 : IntKind.i64.wrap (27 + (n : Int)) = 27 + n := wrap_id (by omega) (by omega)
  generalize hj : 27 + i = j at hs hset
  have w2 : IntKind.i64.wrap ((j : Int) + 1) = ((j + 1 : Nat) : Int) := wrap_id (by omega) (by omega)
  have hj1 : 27 + (i + 1) = j + 1 := by omega
  have r1 : ((freeL s i).length + 1) * 8 ≤ room := by unfold room; omega
  have r2 : (freeL s i).length + 1 ≤ room := by unfold room; omega
  by_cases hlt : (j : Int) < 27 + n
  · by_cases hbt : bitB s j = true
    · rw [if_pos hbt] at hs
      rw [hbt] at hset
      (repeat (first
    | (apply is_ok; (case hw => simp [w1, hlt, hset]); (case he => simp [w1, hlt, hset]; exact is_rfl))
    | (apply op_no; (case hw => simp [w1, hlt, hset]))
    | refine op_nil ?_ | refine next_normal ?_ | refine go_seq ?_ | refine go_region ?_ | refine go_skip ?_ | refine go_block ?_ | refine inb_normal ?_
    | (apply go_yes; (case hc => simp [w1, hlt, hset])) | (apply go_no; (case hc => simp [w1, hlt, hset]))
    | refine go_exit ?_ | refine next_exit ?_ | refine inb_here ?_ | refine inb_past (by decide) ?_ | refine go_ret ?_ | refine next_ret ?_ | refine inb_ret ?_))
      exact ⟨by omega, by simp [hs, w2, hj1], trivial⟩
    · rw [if_neg hbt] at hs
      rw [show bitB s j = false by simpa using hbt] at hset
      (repeat (first
    | (apply is_ok; (case hw => simp [w1, hlt, hset, r1, r2]); (case he => simp [w1, hlt, hset, r1, r2]; exact is_rfl))
    | (apply op_no; (case hw => simp [w1, hlt, hset, r1, r2]))
    | refine op_nil ?_ | refine next_normal ?_ | refine go_seq ?_ | refine go_region ?_ | refine go_skip ?_ | refine go_block ?_ | refine inb_normal ?_
    | (apply go_yes; (case hc => simp [w1, hlt, hset, r1, r2])) | (apply go_no; (case hc => simp [w1, hlt, hset, r1, r2]))
    | refine go_exit ?_ | refine next_exit ?_ | refine inb_here ?_ | refine inb_past (by decide) ?_ | refine go_ret ?_ | refine next_ret ?_ | refine inb_ret ?_))
      exact ⟨by omega, by simp [hs, w2, hj1], trivial⟩
  · have hin : i = n := by omega
    subst hin
    (repeat (first
    | (apply is_ok; (case hw => simp [w1, hlt]); (case he => simp [w1, hlt]; exact is_rfl))
    | (apply op_no; (case hw => simp [w1, hlt]))
    | refine op_nil ?_ | refine next_normal ?_ | refine go_seq ?_ | refine go_region ?_ | refine go_skip ?_ | refine go_block ?_ | refine inb_normal ?_
    | (apply go_yes; (case hc => simp [w1, hlt])) | (apply go_no; (case hc => simp [w1, hlt]))
    | refine go_exit ?_ | refine next_exit ?_ | refine inb_here ?_ | refine inb_past (by decide) ?_ | refine go_ret ?_ | refine next_ret ?_ | refine inb_ret ?_))
    (apply ends_ok; (case h1 => simp; exact is_rfl); (case h2 => simp; exact is_rfl))
    simp
theorem FreeR_no (S : List (List UInt8)) (B : List Int) (hB : B.length ≤ maxLen) (h : (mapS S B).2 ≠ 0) : bodyW DC 22 [drv S B] [] = some (.tuple [.own 0 0 0 0, .int .i64 (mapS S B).2], [.dat true 1 []]) := by
  obtain ⟨a, b, hb, _⟩ := bitmap_eq S B hB
  generalize mapS S B = e at hb h
  (refine gives_iff ?_; refine go_func Try.f22 rfl rfl (by simp [Try.f22]) ?_; dsimp only [codeL, Try.f22, scL, sopsL, guardL, dstAt, loopKey])
  (repeat (first
    | (apply is_ok; (case hw => simp [hb, h]); (case he => simp [hb, h]; exact is_rfl))
    | (apply op_no; (case hw => simp [hb, h]))
    | refine op_nil ?_ | refine next_normal ?_ | refine go_seq ?_ | refine go_region ?_ | refine go_skip ?_ | refine go_block ?_ | refine inb_normal ?_
    | (apply go_yes; (case hc => simp [hb, h])) | (apply go_no; (case hc => simp [hb, h]))
    | refine go_exit ?_ | refine next_exit ?_ | refine inb_here ?_ | refine inb_past (by decide) ?_ | refine go_ret ?_ | refine next_ret ?_ | refine inb_ret ?_))
  (apply ends_ok; (case h1 => simp; exact is_rfl); (case h2 => simp; exact is_rfl))
  simp
end Go.Abs
