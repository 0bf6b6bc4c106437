/- Proved here: what functions of the program compute, over the evaluator. No condition but those that each theorem states. -/
import Derived.Test.YtpffmpllnpmkbaaDoorE15
namespace Go.Abs
open Go.Proofs
set_option maxRecDepth 100000
set_option linter.unusedSimpArgs false
set_option linter.unusedVariables false

def usedB (S : List (List UInt8)) (B : List Int) (n : Int) : Bool := decide ((mapS S B).2 = 0) && (decide (0 ≤ n ∧ n < S.length) && bitB (mapS S B).1 n.toNat)

def kindV : V → Int
  | .agg (.int _ k :: _) => k
  | _ => 0
/-- The first free inode from n on. -/
def allocF (S : List (List UInt8)) (B : List Int) : Nat → Nat → Int × Int
  | 0, _ => (0, 12)
  | f + 1, n => if getE S B n ≠ 0 then (0, getE S B n) else if kindV (getV S B n) = 0 then (n, 0) else allocF S B f (n + 1)

end Go.Abs
