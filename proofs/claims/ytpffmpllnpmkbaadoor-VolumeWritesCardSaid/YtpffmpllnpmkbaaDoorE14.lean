/- Proved here: what functions of the program compute, over the evaluator. No condition but those that each theorem states. -/
import Derived.Test.YtpffmpllnpmkbaaDoorE13
namespace Go.Abs
open Go.Proofs
set_option maxRecDepth 100000
set_option linter.unusedSimpArgs false
set_option linter.unusedVariables false

/-- A bit of a bitmap. -/
def bitB (s : List UInt8) (n : Nat) : Bool := (s.getD (n / 8) 0).toNat / 2 ^ (n % 8) % 2 == 1
theorem and7 (n : Nat) (h : n ≤ 1000000) : intOp .and .i64 (n : Int) 7 = some (.int .i64 ((n % 8 : Nat) : Int)) := by
  show some (V.int .i64 (IntKind.i64.wrap ((BitVec.ofInt 64 (n : Int) &&& 7#64).toNat : Int))) = _
  have e : (BitVec.ofInt 64 (n : Int) &&& 7#64).toNat = n % 8 := by
    rw [BitVec.toNat_and, BitVec.toNat_ofInt]
    rw [show ((n : Int) % (2 ^ 64 : Nat)).toNat = n by omega]
    exact Nat.and_two_pow_sub_one_eq_mod _ 3
  rw [e, wrap_id (by omega) (by omega)]
theorem and1_i64 (n : Nat) (h : n ≤ 1000000) : intOp .and .i64 (n : Int) 1 = some (.int .i64 ((n % 2 : Nat) : Int)) := by
  show some (V.int .i64 (IntKind.i64.wrap ((BitVec.ofInt 64 (n : Int) &&& 1#64).toNat : Int))) = _
  have e : (BitVec.ofInt 64 (n : Int) &&& 1#64).toNat = n % 2 := by
    rw [BitVec.toNat_and, BitVec.toNat_ofInt]
    rw [show ((n : Int) % (2 ^ 64 : Nat)).toNat = n by omega]
    exact Nat.and_two_pow_sub_one_eq_mod _ 1
  rw [e, wrap_id (by omega) (by omega)]
theorem and1_u8 (n : Nat) (h : n < 256) : intOp .and .u8 (n : Int) 1 = some (.int .u8 ((n % 2 : Nat) : Int)) := by
  show some (V.int .u8 (IntKind.u8.wrap ((BitVec.ofInt 8 (n : Int) &&& 1#8).toNat : Int))) = _
  have e : (BitVec.ofInt 8 (n : Int) &&& 1#8).toNat = n % 2 := by
    rw [BitVec.toNat_and, BitVec.toNat_ofInt]
    rw [show ((n : Int) % (2 ^ 8 : Nat)).toNat = n by omega]
    exact Nat.and_two_pow_sub_one_eq_mod _ 1
  rw [e, wrap_u8_nat]
  congr 2
  omega
theorem intOp_quo8 (a : Int) : intOp .quo .i64 a 8 = some (.int .i64 (IntKind.i64.wrap (a.tdiv 8))) := rfl
theorem intOp_rem8 (a : Int) : intOp .rem .i64 a 8 = some (.int .i64 (a.tmod 8)) := rfl
theorem div_pow_le (x r : Nat) : x / 2 ^ r ≤ x := Nat.div_le_self _ _

/-- The bitmap. -/
def mapS (S : List (List UInt8)) (B : List Int) : List UInt8 × Int := if VolP S B then readS S B 18 else ([], 9)
theorem map_ok {S : List (List UInt8)} {B : List Int} (h : (mapS S B).2 = 0) : VolP S B ∧ (mapS S B).1.length = 128 := by
  unfold mapS at h ⊢
  by_cases hv : VolP S B
  · rw [if_pos hv] at h ⊢
    have hb := vol_bounds hv
    unfold readS at h ⊢
    rw [if_pos (by omega)] at h ⊢
    by_cases hi : (18 : Int) ∈ B
    · rw [if_pos hi] at h; exact absurd h (by simp)
    · rw [if_neg hi]
      have hlt : (18 : Int).toNat < S.length := by omega
      exact ⟨hv, by rw [getD_at hlt]; exact hv.1.2.2.1 _ (List.getElem_mem hlt)⟩
  · rw [if_neg hv] at h; exact absurd h (by simp)

abbrev extV (a b : Int) : V := .agg [.int .i64 a, .int .i64 b]

end Go.Abs
