/- Proved here: what functions of the program compute, over the evaluator. No condition but those that each theorem states. -/
import Derived.Test.YtbnnaaadblpgiaaD12
namespace Go.Abs
open Go.Proofs
set_option maxRecDepth 100000
set_option linter.unusedSimpArgs false

theorem diffL_one {S T : List (List UInt8)} {i : Nat} (h : ∀ j, j ≠ i → S[j]? = T[j]?) : ∀ n, diffL S T n = if i < n ∧ S[i]? ≠ T[i]? then [(i : Int)] else []
  | 0 => by simp [diffL]
  | n + 1 => by
    rw [diffL_succ, diffL_one h n]
    by_cases hn : n = i
    · subst hn
      by_cases h2 : S[n]? = T[n]?
      · simp [h2]
      · simp [h2]
    · rw [if_pos (h n hn)]
      have : i < n + 1 ↔ i < n := by omega
      simp only [this]
theorem diffA_put (S : List (List UInt8)) (w : Int × List UInt8) (h0 : 0 ≤ w.1) : diffA S (putS S w) = [] ∨ diffA S (putS S w) = [w.1] := by
  have h : ∀ j, j ≠ w.1.toNat → S[j]? = (putS S w)[j]? := fun j hj => by unfold putS; rw [List.getElem?_set_ne (Ne.symm hj)]
  rw [diffA, diffL_one h]
  split
  · exact .inr (by rw [Int.toNat_of_nonneg h0])
  · exact .inl rfl
theorem RightP_put {S : List (List UInt8)} {B : List Int} {w : Int × List UInt8} (h : RightP S B) (hw : w.2.length ≤ 128) : RightP (putS S w) B := by
  obtain ⟨h1, h2, h3, h4, h5⟩ := h
  refine ⟨by rw [putS_length]; exact h1, by rw [putS_length]; exact h2, fun s hs => ?_, by rw [putS_length]; exact h4, h5⟩
  unfold putS at hs
  rcases List.mem_or_eq_of_mem_set hs with hs | rfl
  · exact h3 s hs
  · simp; omega
theorem readS_put {S : List (List UInt8)} {B : List Int} {w : Int × List UInt8} (h : faultI S.length B w = 0) : readS (putS S w) B w.1 = (w.2 ++ List.replicate (128 - w.2.length) 0, 0) := by
  obtain ⟨h1, h2, h3⟩ := faultI_zero.1 h
  have hl : w.1.toNat < S.length := by omega
  unfold readS
  rw [putS_length, if_pos h1, if_neg h3]
  simp [putS, hl]

end Go.Abs
