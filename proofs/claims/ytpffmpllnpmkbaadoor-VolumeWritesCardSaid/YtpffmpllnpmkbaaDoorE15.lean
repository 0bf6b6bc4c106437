/- Proved here: what functions of the program compute, over the evaluator. No condition but those that each theorem states. -/
import Derived.Test.YtpffmpllnpmkbaaDoorE14
namespace Go.Abs
open Go.Proofs
set_option maxRecDepth 100000
set_option linter.unusedSimpArgs false
set_option linter.unusedVariables false

/-- The numbers from 27 on, n of them, whose bits are not set. -/
def freeL (s : List UInt8) (n : Nat) : List Int := ((List.range n).filter fun i => !bitB s (27 + i)).map fun i => ((27 + i : Nat) : Int)
theorem freeL_succ (s : List UInt8) (n : Nat) : freeL s (n + 1) = if bitB s (27 + n) = true then freeL s n else freeL s n ++ [((27 + n : Nat) : Int)] := by
  unfold freeL
  rw [List.range_succ, List.filter_append, List.map_append]
  by_cases h : bitB s (27 + n) = true <;> simp [h]
theorem freeL_length (s : List UInt8) (n : Nat) : (freeL s n).length ≤ n := by
  unfold freeL
  rw [List.length_map]
  exact Nat.le_trans (List.length_filter_le _ _) (by simp)
def freeN (S : List (List UInt8)) : Nat := ((S.length : Int) - swapW S - 27).toNat
theorem freeN_eq {S : List (List UInt8)} {B : List Int} (h : VolP S B) : (S.length : Int) - swapW S - 27 = (freeN S : Nat) ∧ freeN S ≤ 229 := by
  have := vol_bounds h
  unfold freeN
  omega

end Go.Abs
