/- Proved here: what functions of the program compute, over the evaluator. No condition but those that each theorem states. -/
import Derived.Test.YthpkihimboiglaaD1
namespace Go.Abs
open Go.Proofs
set_option maxRecDepth 100000
set_option linter.unusedSimpArgs false

/-- A drive's value. -/
abbrev drv (S : List (List UInt8)) (B : List Int) : V := .agg [.sl (strs S), .sl (ints B)]

def FairP (S : List (List UInt8)) (B : List Int) : Prop := S.length ≤ 64 ∧ B.length ≤ 80 ∧ ∀ s ∈ S, s.length ≤ 200
instance (S : List (List UInt8)) (B : List Int) : Decidable (FairP S B) := by unfold FairP; infer_instance

def RightP (S : List (List UInt8)) (B : List Int) : Prop := 1 ≤ S.length ∧ S.length ≤ 256 ∧ (∀ s ∈ S, s.length = 128) ∧ (∀ b ∈ B, 0 ≤ b ∧ b < S.length) ∧ ∀ i ∈ List.range B.length, 1 ≤ i → B.getD (i - 1) 0 < B.getD i 0
instance (S : List (List UInt8)) (B : List Int) : Decidable (RightP S B) := by unfold RightP; infer_instance

end Go.Abs
