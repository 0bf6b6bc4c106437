/- Proved here: what functions of the program compute, over the evaluator. No condition but those that each theorem states. -/
import Derived.Test.YtpffmpllnpmkbaaE13
namespace Go.Abs
open Go.Proofs
set_option maxRecDepth 100000
set_option linter.unusedSimpArgs false
set_option linter.unusedVariables false

/-- A bit of a bitmap. -/
def bitB (s : List UInt8) (n : Nat) : Bool := (s.getD (n / 8) 0).toNat / 2 ^ (n % 8) % 2 == 1
theorem and7 (n : Nat) (h : n ≤ 1000000) : intOp .and .i64 (n : Int) 7 = some (.int .i64 ((n % 8 : Nat) : Int)) := by
  show some (V.int .i64 (IntKind.i64.wrap ((BitVec.ofInt 64 (n : Int) &&& 7#64).toNat : Int))) = _
  have e : (BitVec.ofInt 64 (n : Int) &&& 7#64).toNat = n % 8 := by
    rw [BitVec.toNat_and, BitVec.toNat_ofInt]
    rw [show ((n : Int) % (2 ^ 64 : Nat)).toNat = n by omega]
    exact Nat.and_two_pow_sub_one_eq_mod _ 3
  rw [e, wrap_id (by omega) (by omega)]
theorem and1_i64 (n : Nat) (h : n ≤ 1000000) : intOp .and .i64 (n : Int) 1 = some (.int .i64 ((n % 2 : Nat) : Int)) := by
  show some (V.int .i64 (IntKind.i64.wrap ((BitVec.ofInt 64 (n : Int) &&& 1#64).toNat : Int))) = _
  have e : (BitVec.ofInt 64 (n : Int) &&& 1#64).toNat = n % 2 := by
    rw [BitVec.toNat_and, BitVec.toNat_ofInt]
    rw [show ((n : Int) % (2 ^ 64 : Nat)).toNat = n by omega]
    exact Nat.and_two_pow_sub_one_eq_mod _ 1
  rw [e, wrap_id (by omega) (by omega)]
theorem and1_u8 (n : Nat) (h : n < 256) : intOp .and .u8 (n : Int) 1 = some (.int .u8 ((n % 2 : Nat) : Int)) := by
  show some (V.int .u8 (IntKind.u8.wrap ((BitVec.ofInt 8 (n : Int) &&& 1#8).toNat : Int))) = _
  have e : (BitVec.ofInt 8 (n : Int) &&& 1#8).toNat = n % 2 := by
    rw [BitVec.toNat_and, BitVec.toNat_ofInt]
    rw [show ((n : Int) % (2 ^ 8 : Nat)).toNat = n by omega]
    exact Nat.and_two_pow_sub_one_eq_mod _ 1
  rw [e, wrap_u8_nat]
  congr 2
  omega
theorem intOp_quo8 (a : Int) : intOp .quo .i64 a 8 = some (.int .i64 (IntKind.i64.wrap (a.tdiv 8))) := rfl
theorem intOp_rem8 (a : Int) : intOp .rem .i64 a 8 = some (.int .i64 (a.tmod 8)) := rfl
theorem div_pow_le (x r : Nat) : x / 2 ^ r ≤ x := Nat.div_le_self _ _

theorem set_eq (s : List UInt8) (n : Nat) (h : n / 8 < s.length) (hn : n ≤ 1000000) : bodyW DC 50 [.sl (u8s s), .int .i64 n] [] = some (.bool (bitB s n), []) := by
  have f1 : (n : Int).fdiv 8 = ((n / 8 : Nat) : Int) := fdiv_nat n 8
  have f2 := and7 n hn
  unfold bitB
  rw [getD_at h]
  generalize hx : s[n / 8]'h = x
  have g0 : (u8s s)[n / 8]? = some (.int .u8 x.toNat) := by
    unfold u8s
    rw [List.getElem?_map, List.getElem?_eq_getElem h, hx]; rfl
  have hx8 := x.toNat_lt
  have hr : n % 8 < 8 := Nat.mod_lt _ (by omega)
  generalize n / 8 = q at f1 g0 h
  generalize n % 8 = r at f2 hr
  have f3 : (x.toNat : Int).fdiv (2 ^ r) = ((x.toNat / 2 ^ r : Nat) : Int) := by
    have := fdiv_nat x.toNat (2 ^ r)
    rwa [Int.natCast_pow] at this
  have hv := div_pow_le x.toNat r
  generalize x.toNat / 2 ^ r = v at f3 hv
  have f4 := and1_u8 v (by omega)
  have f5 : min r 8 = r := by omega
  (refine gives_iff ?_; refine go_func Try.f50 rfl rfl (by simp [Try.f50]) ?_; dsimp only [codeL, Try.f50, scL, sopsL, guardL, dstAt, loopKey])
  (repeat (first
    | (apply is_ok; (case hw => simp [-intOp, f1, f2, f3, f4, f5, g0]); (case he => simp [-intOp, f1, f2, f3, f4, f5, g0]; exact is_rfl))
    | (apply op_no; (case hw => simp [-intOp, f1, f2, f3, f4, f5, g0]))
    | refine op_nil ?_ | refine next_normal ?_ | refine go_seq ?_ | refine go_region ?_ | refine go_skip ?_ | refine go_block ?_ | refine inb_normal ?_
    | (apply go_yes; (case hc => simp [-intOp, f1, f2, f3, f4, f5, g0])) | (apply go_no; (case hc => simp [-intOp, f1, f2, f3, f4, f5, g0]))
    | refine go_exit ?_ | refine next_exit ?_ | refine inb_here ?_ | refine inb_past (by decide) ?_ | refine go_ret ?_ | refine next_ret ?_ | refine inb_ret ?_))
  (apply ends_ok; (case h1 => simp; exact is_rfl); (case h2 => simp; exact is_rfl))
  refine ⟨congrArg V.bool ?_, rfl⟩
  rw [Bool.eq_iff_iff]
  simp
  omega

theorem bit_eq (s : List UInt8) (n : Nat) (h : n / 8 < s.length) (hn : n ≤ 1000000) : bodyW DC 52 [.str s, .int .i64 n] [] = some (.bool (bitB s n), []) := by
  have f1 : (n : Int).tdiv 8 = ((n / 8 : Nat) : Int) := by rw [Int.tdiv_eq_ediv_of_nonneg (by omega)]; rfl
  have f2 : (n : Int).tmod 8 = ((n % 8 : Nat) : Int) := by rw [Int.tmod_eq_emod_of_nonneg (by omega)]; rfl
  have f6 : IntKind.i64.wrap ((n / 8 : Nat) : Int) = ((n / 8 : Nat) : Int) := wrap_id (by omega) (by omega)
  unfold bitB
  rw [getD_at h]
  generalize hx : s[n / 8]'h = x
  have g0 : s[n / 8]? = some x := by rw [List.getElem?_eq_getElem h, hx]
  have hx8 := x.toNat_lt
  have hr : n % 8 < 8 := Nat.mod_lt _ (by omega)
  generalize n / 8 = q at f1 g0 h f6 hx
  generalize n % 8 = r at f2 hr
  have f3 : (x.toNat : Int).fdiv (2 ^ r) = ((x.toNat / 2 ^ r : Nat) : Int) := by
    have := fdiv_nat x.toNat (2 ^ r)
    rwa [Int.natCast_pow] at this
  have f7 := wrap_byte x
  have hv := div_pow_le x.toNat r
  generalize hv' : x.toNat / 2 ^ r = v at f3 hv
  have f4 := and1_i64 v (by omega)
  have f5 : min r 64 = r := by omega
  (refine gives_iff ?_; refine go_func Try.f52 rfl rfl (by simp [Try.f52]) ?_; dsimp only [codeL, Try.f52, scL, sopsL, guardL, dstAt, loopKey])
  (repeat (first
    | (apply is_ok; (case hw => simp [-intOp, intOp_quo8, intOp_rem8, f1, f2, f3, f4, f5, f6, f7, g0, h, hx]); (case he => simp [-intOp, intOp_quo8, intOp_rem8, f1, f2, f3, f4, f5, f6, f7, g0, h, hx]; exact is_rfl))
    | (apply op_no; (case hw => simp [-intOp, intOp_quo8, intOp_rem8, f1, f2, f3, f4, f5, f6, f7, g0, h, hx]))
    | refine op_nil ?_ | refine next_normal ?_ | refine go_seq ?_ | refine go_region ?_ | refine go_skip ?_ | refine go_block ?_ | refine inb_normal ?_
    | (apply go_yes; (case hc => simp [-intOp, intOp_quo8, intOp_rem8, f1, f2, f3, f4, f5, f6, f7, g0, h, hx])) | (apply go_no; (case hc => simp [-intOp, intOp_quo8, intOp_rem8, f1, f2, f3, f4, f5, f6, f7, g0, h, hx]))
    | refine go_exit ?_ | refine next_exit ?_ | refine inb_here ?_ | refine inb_past (by decide) ?_ | refine go_ret ?_ | refine next_ret ?_ | refine inb_ret ?_))
  (apply ends_ok; (case h1 => simp; exact is_rfl); (case h2 => simp; exact is_rfl))
  refine ⟨congrArg V.bool ?_, rfl⟩
  rw [Bool.eq_iff_iff]
  simp
  omega

/-- The bitmap. -/
def mapS (S : List (List UInt8)) (B : List Int) : List UInt8 × Int := if VolP S B then readS S B 18 else ([], 9)
theorem map_ok {S : List (List UInt8)} {B : List Int} (h : (mapS S B).2 = 0) : VolP S B ∧ (mapS S B).1.length = 128 := by
  unfold mapS at h ⊢
  by_cases hv : VolP S B
  · rw [if_pos hv] at h ⊢
    have hb := vol_bounds hv
    unfold readS at h ⊢
    rw [if_pos (by omega)] at h ⊢
    by_cases hi : (18 : Int) ∈ B
    · rw [if_pos hi] at h; exact absurd h (by simp)
    · rw [if_neg hi]
      have hlt : (18 : Int).toNat < S.length := by omega
      exact ⟨hv, by rw [getD_at hlt]; exact hv.1.2.2.1 _ (List.getElem_mem hlt)⟩
  · rw [if_neg hv] at h; exact absurd h (by simp)

abbrev extV (a b : Int) : V := .agg [.int .i64 a, .int .i64 b]

theorem bits_no (S : List (List UInt8)) (B : List Int) (hB : B.length ≤ maxLen) (h : (mapS S B).2 ≠ 0) : bodyW DC 49 [drv S B] [] = some (.tuple [extV 0 0, .own 0 0 0 0, .int .i64 (mapS S B).2], [.dat true 1 []]) := by
  have hL := Layout_eq S B hB
  unfold mapS at h ⊢
  by_cases hv : VolP S B
  case neg =>
    rw [layV_no hv] at hL
    rw [if_neg hv]
    (refine gives_iff ?_; refine go_func Try.f49 rfl rfl (by simp [Try.f49]) ?_; dsimp only [codeL, Try.f49, scL, sopsL, guardL, dstAt, loopKey])
    (repeat (first
    | (apply is_ok; (case hw => simp [hL]); (case he => simp [hL]; exact is_rfl))
    | (apply op_no; (case hw => simp [hL]))
    | refine op_nil ?_ | refine next_normal ?_ | refine go_seq ?_ | refine go_region ?_ | refine go_skip ?_ | refine go_block ?_ | refine inb_normal ?_
    | (apply go_yes; (case hc => simp [hL])) | (apply go_no; (case hc => simp [hL]))
    | refine go_exit ?_ | refine next_exit ?_ | refine inb_here ?_ | refine inb_past (by decide) ?_ | refine go_ret ?_ | refine next_ret ?_ | refine inb_ret ?_))
    (apply ends_ok; (case h1 => simp; exact is_rfl); (case h2 => simp; exact is_rfl))
    simp
  rw [layV_yes hv] at hL
  rw [if_pos hv] at h ⊢
  have hR := Read_eq S B hB 18
  generalize readS S B 18 = r at hR h
  (refine gives_iff ?_; refine go_func Try.f49 rfl rfl (by simp [Try.f49]) ?_; dsimp only [codeL, Try.f49, scL, sopsL, guardL, dstAt, loopKey])
  (repeat (first
    | (apply is_ok; (case hw => simp [hL, hR, h]); (case he => simp [hL, hR, h]; exact is_rfl))
    | (apply op_no; (case hw => simp [hL, hR, h]))
    | refine op_nil ?_ | refine next_normal ?_ | refine go_seq ?_ | refine go_region ?_ | refine go_skip ?_ | refine go_block ?_ | refine inb_normal ?_
    | (apply go_yes; (case hc => simp [hL, hR, h])) | (apply go_no; (case hc => simp [hL, hR, h]))
    | refine go_exit ?_ | refine next_exit ?_ | refine inb_here ?_ | refine inb_past (by decide) ?_ | refine go_ret ?_ | refine next_ret ?_ | refine inb_ret ?_))
  (apply ends_ok; (case h1 => simp; exact is_rfl); (case h2 => simp; exact is_rfl))
  simp

theorem bits_ok (S : List (List UInt8)) (B : List Int) (hB : B.length ≤ maxLen) (h : (mapS S B).2 = 0) : bodyW DC 49 [drv S B] [] = some (.tuple [extV 27 (S.length - swapW S - 27), .own 0 128 0 128, .int .i64 0], [.dat true 1 (u8s (mapS S B).1)]) := by
  have hL := Layout_eq S B hB
  obtain ⟨hv, hl⟩ := map_ok h
  rw [layV_yes hv] at hL
  have hR := Read_eq S B hB 18
  have e : mapS S B = readS S B 18 := by unfold mapS; rw [if_pos hv]
  rw [e] at h hl ⊢
  rw [h] at hR
  generalize (readS S B 18).1 = s at hR hl
  have r1 : (128 : Nat) ≤ room := by unfold room; omega
  (refine gives_iff ?_; refine go_func Try.f49 rfl rfl (by simp [Try.f49]) ?_; dsimp only [codeL, Try.f49, scL, sopsL, guardL, dstAt, loopKey])
  (repeat (first
    | (apply is_ok; (case hw => simp [hL, hR, hl, r1]); (case he => simp [hL, hR, hl, r1]; exact is_rfl))
    | (apply op_no; (case hw => simp [hL, hR, hl, r1]))
    | refine op_nil ?_ | refine next_normal ?_ | refine go_seq ?_ | refine go_region ?_ | refine go_skip ?_ | refine go_block ?_ | refine inb_normal ?_
    | (apply go_yes; (case hc => simp [hL, hR, hl, r1])) | (apply go_no; (case hc => simp [hL, hR, hl, r1]))
    | refine go_exit ?_ | refine next_exit ?_ | refine inb_here ?_ | refine inb_past (by decide) ?_ | refine go_ret ?_ | refine next_ret ?_ | refine inb_ret ?_))
  (apply ends_ok; (case h1 => simp; exact is_rfl); (case h2 => simp; exact is_rfl))
  simp

theorem bitmap_eq (S : List (List UInt8)) (B : List Int) (hB : B.length ≤ maxLen) : ∃ a b, bodyW DC 51 [drv S B] [] = some (.tuple [extV a b, .str (mapS S B).1, .int .i64 (mapS S B).2], []) ∧ ((mapS S B).2 = 0 → a = 27 ∧ b = S.length - swapW S - 27) := by
  have hL := LayoutR_eq S B hB
  unfold mapS
  by_cases hv : VolP S B
  case neg =>
    rw [layV_no hv] at hL
    rw [if_neg hv]
    refine ⟨0, 0, ?_, fun h => absurd h (by simp)⟩
    (refine gives_iff ?_; refine go_func Try.f51 rfl rfl (by simp [Try.f51]) ?_; dsimp only [codeL, Try.f51, scL, sopsL, guardL, dstAt, loopKey])
    (repeat (first
    | (apply is_ok; (case hw => simp [hL]); (case he => simp [hL]; exact is_rfl))
    | (apply op_no; (case hw => simp [hL]))
    | refine op_nil ?_ | refine next_normal ?_ | refine go_seq ?_ | refine go_region ?_ | refine go_skip ?_ | refine go_block ?_ | refine inb_normal ?_
    | (apply go_yes; (case hc => simp [hL])) | (apply go_no; (case hc => simp [hL]))
    | refine go_exit ?_ | refine next_exit ?_ | refine inb_here ?_ | refine inb_past (by decide) ?_ | refine go_ret ?_ | refine next_ret ?_ | refine inb_ret ?_))
    (apply ends_ok; (case h1 => simp; exact is_rfl); (case h2 => simp; exact is_rfl))
    simp
  rw [layV_yes hv] at hL
  rw [if_pos hv]
  have hR := ReadR_eq S B hB 18
  generalize readS S B 18 = r at hR
  refine ⟨27, S.length - swapW S - 27, ?_, fun _ => ⟨rfl, rfl⟩⟩
  (refine gives_iff ?_; refine go_func Try.f51 rfl rfl (by simp [Try.f51]) ?_; dsimp only [codeL, Try.f51, scL, sopsL, guardL, dstAt, loopKey])
  (repeat (first
    | (apply is_ok; (case hw => simp [hL, hR]); (case he => simp [hL, hR]; exact is_rfl))
    | (apply op_no; (case hw => simp [hL, hR]))
    | refine op_nil ?_ | refine next_normal ?_ | refine go_seq ?_ | refine go_region ?_ | refine go_skip ?_ | refine go_block ?_ | refine inb_normal ?_
    | (apply go_yes; (case hc => simp [hL, hR])) | (apply go_no; (case hc => simp [hL, hR]))
    | refine go_exit ?_ | refine next_exit ?_ | refine inb_here ?_ | refine inb_past (by decide) ?_ | refine go_ret ?_ | refine next_ret ?_ | refine inb_ret ?_))
  (apply ends_ok; (case h1 => simp; exact is_rfl); (case h2 => simp; exact is_rfl))
  simp
end Go.Abs
