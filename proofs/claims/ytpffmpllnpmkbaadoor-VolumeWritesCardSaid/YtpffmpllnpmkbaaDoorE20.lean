/- Proved here: what functions of the program compute, over the evaluator. No condition but those that each theorem states. -/
import Derived.Test.YtpffmpllnpmkbaaDoorE19
namespace Go.Abs
open Go.Proofs
set_option maxRecDepth 100000
set_option linter.unusedSimpArgs false
set_option linter.unusedVariables false

theorem allocF_zero (S : List (List UInt8)) (B : List Int) : ∀ f n, (allocF S B f n).2 = 0 → (n : Int) ≤ (allocF S B f n).1 ∧ (allocF S B f n).1 < (n : Int) + f
  | 0, n, h => by simp [allocF] at h
  | f + 1, n, h => by
    unfold allocF at h ⊢
    by_cases h1 : getE S B n ≠ 0
    · rw [if_pos h1] at h; exact absurd h h1
    · rw [if_neg h1] at h ⊢
      by_cases h2 : kindV (getV S B n) = 0
      · rw [if_pos h2]; exact ⟨Int.le_refl _, by dsimp only; omega⟩
      · rw [if_neg h2] at h ⊢
        have := allocF_zero S B f (n + 1) h
        omega
theorem allocF_err (S : List (List UInt8)) (B : List Int) : ∀ f n, (allocF S B f n).2 ≠ 0 → (allocF S B f n).1 = 0
  | 0, n, h => rfl
  | f + 1, n, h => by
    unfold allocF at h ⊢
    by_cases h1 : getE S B n ≠ 0
    · rw [if_pos h1]
    · rw [if_neg h1] at h ⊢
      by_cases h2 : kindV (getV S B n) = 0
      · rw [if_pos h2] at h; exact absurd rfl h
      · rw [if_neg h2] at h ⊢
        exact allocF_err S B f (n + 1) h
theorem getV_free {S : List (List UInt8)} {B : List Int} {n : Int} (h : getE S B n = 0) (hk : kindV (getV S B n) = 0) : getV S B n = ino0 := by
  unfold getV getE at *
  split at h
  · rename_i he
    rw [if_pos he] at hk ⊢
    unfold parseE at h
    split at h
    · rename_i ho
      unfold parseV at hk ⊢
      rw [if_pos ho] at hk ⊢
      have hv := ho.2.1
      have hk' : wd (inoS S B n) 0 = 0 := hk
      unfold validI at hv
      rw [if_pos hk'] at hv
      rw [hk', hv.1, hv.2.1, hv.2.2]
      rfl
    · cases h
  · rename_i he
    exact absurd h he

end Go.Abs
