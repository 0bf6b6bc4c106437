/- Proved here: what functions of the program compute, over the evaluator. No condition but those that each theorem states. -/
import Derived.Test.YtpffmpllnpmkbaaDoorE11
import Derived.Test.YtpffmpllnpmkbaaDoorD12
namespace Go.Abs
open Go.Proofs
set_option maxRecDepth 100000
set_option linter.unusedSimpArgs false
set_option linter.unusedVariables false

theorem bytesI_length {k l z : Int} {L : List Int} (hL : L.length = 8) : (bytesI k l z L).length = 32 := by
  match L, hL with
  | [a, b, c, d, e, f, g, h], _ => rfl

/-- What Put returns. -/
def putW (S : List (List UInt8)) (B : List Int) (n k l z : Int) (L : List Int) : (Int × List UInt8) × Int :=
  if (secS S B n).2 = 0 then if validI k l z L then ((19 + n / 4, (secS S B n).1.take (n.toNat % 4 * 32) ++ (bytesI k l z L ++ (secS S B n).1.drop (n.toNat % 4 * 32 + 32))), 0) else ((0, []), 1) else ((0, []), (secS S B n).2)

end Go.Abs
