/- Proved here: what functions of the program compute, over the evaluator. No condition but those that each theorem states. -/
import Derived.Test.YtpffmpllnpmkbaaDoorE1
namespace Go.Abs
open Go.Proofs
set_option maxRecDepth 100000
set_option linter.unusedSimpArgs false
set_option linter.unusedVariables false

abbrev inoV (k l z : Int) (L : List Int) : V := .agg (.int .i64 k :: .int .i64 l :: .int .i64 z :: ints L)
@[simp] theorem put2_length (n : Int) : (put2 n).length = 2 := rfl
def bytesI (k l z : Int) (L : List Int) : List UInt8 := put2 k ++ (put2 l ++ (put2 z ++ (L.flatMap put2 ++ List.replicate 10 0)))
/-- Numbers of 64 bits. -/
def In64 (L : List Int) : Prop := ∀ x ∈ L, -9223372036854775808 ≤ x ∧ x ≤ 9223372036854775807

end Go.Abs
