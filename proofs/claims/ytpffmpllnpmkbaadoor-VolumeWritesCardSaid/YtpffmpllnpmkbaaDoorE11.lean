/- Proved here: what functions of the program compute, over the evaluator. No condition but those that each theorem states. -/
import Derived.Test.YtpffmpllnpmkbaaDoorE10
namespace Go.Abs
open Go.Proofs
set_option maxRecDepth 100000
set_option linter.unusedSimpArgs false
set_option linter.unusedVariables false

/-- The sector of an inode. -/
def secS (S : List (List UInt8)) (B : List Int) (n : Int) : List UInt8 × Int := if VolP S B then if 1 ≤ n ∧ n < 32 then readS S B (19 + n / 4) else ([], 2) else ([], 9)

theorem layV_no {S : List (List UInt8)} {B : List Int} (h : ¬ VolP S B) : layV S B = .tuple [.agg [.int .i64 0, .int .i64 0], .agg [.int .i64 0, .int .i64 0], .int .i64 9] := by unfold layV; rw [if_neg h]
theorem layV_yes {S : List (List UInt8)} {B : List Int} (h : VolP S B) : layV S B = .tuple [.agg [.int .i64 27, .int .i64 (S.length - swapW S - 27)], .agg [.int .i64 (S.length - swapW S), .int .i64 (swapW S)], .int .i64 0] := by unfold layV; rw [if_pos h]

theorem sec_ok {S : List (List UInt8)} {B : List Int} {n : Int} (h : (secS S B n).2 = 0) : VolP S B ∧ 1 ≤ n ∧ n < 32 ∧ (secS S B n).1.length = 128 := by
  unfold secS at h ⊢
  by_cases hv : VolP S B
  · rw [if_pos hv] at h ⊢
    by_cases h1 : 1 ≤ n ∧ n < 32
    · rw [if_pos h1] at h ⊢
      have hb := vol_bounds hv
      unfold readS at h ⊢
      rw [if_pos (by omega)] at h ⊢
      by_cases hi : 19 + n / 4 ∈ B
      · rw [if_pos hi] at h; exact absurd h (by simp)
      · rw [if_neg hi]
        have hlt : (19 + n / 4).toNat < S.length := by omega
        exact ⟨hv, h1.1, h1.2, by rw [getD_at hlt]; exact hv.1.2.2.1 _ (List.getElem_mem hlt)⟩
    · rw [if_neg h1] at h; exact absurd h (by simp)
  · rw [if_neg hv] at h; exact absurd h (by simp)

/-- The text of an inode. -/
def inoS (S : List (List UInt8)) (B : List Int) (n : Int) : List UInt8 := ((secS S B n).1.drop (n.toNat % 4 * 32)).take 32
def getV (S : List (List UInt8)) (B : List Int) (n : Int) : V := if (secS S B n).2 = 0 then parseV (inoS S B n) else ino0
def getE (S : List (List UInt8)) (B : List Int) (n : Int) : Int := if (secS S B n).2 = 0 then parseE (inoS S B n) else (secS S B n).2

end Go.Abs
