/- Proved here: what functions of the program compute, over the evaluator. No condition but those that each theorem states. -/
import Derived.Test.YtpffmpllnpmkbaaDoorD9
namespace Go.Abs
open Go.Proofs
set_option maxRecDepth 100000
set_option linter.unusedSimpArgs false

/-- The places up to n at which two lists differ. -/
def diffL (S T : List (List UInt8)) (n : Nat) : List Int := ((List.range n).filter fun i => !(S[i]? == T[i]?)).map Int.ofNat
theorem diffL_succ (S T : List (List UInt8)) (n : Nat) : diffL S T (n + 1) = if S[n]? = T[n]? then diffL S T n else diffL S T n ++ [(n : Int)] := by
  unfold diffL
  rw [List.range_succ, List.filter_append, List.map_append]
  by_cases h : S[n]? = T[n]? <;> simp [h]
theorem diffL_length (S T : List (List UInt8)) (n : Nat) : (diffL S T n).length ≤ n := by
  unfold diffL
  rw [List.length_map]
  exact Nat.le_trans (List.length_filter_le _ _) (by simp)
abbrev diffA (S T : List (List UInt8)) : List Int := diffL S T (max S.length T.length)
theorem diffL_nil {S T : List (List UInt8)} {n : Nat} : diffL S T n = [] ↔ ∀ i, i < n → S[i]? = T[i]? := by
  unfold diffL
  rw [List.map_eq_nil_iff, List.filter_eq_nil_iff]
  simp
theorem diffA_nil {S T : List (List UInt8)} : diffA S T = [] ↔ S = T := by
  rw [diffL_nil]
  constructor
  · intro h
    apply List.ext_getElem?
    intro i
    by_cases hi : i < max S.length T.length
    · exact h i hi
    · rw [List.getElem?_eq_none (by omega), List.getElem?_eq_none (by omega)]
  · rintro rfl _ _; rfl

end Go.Abs
