/- Proved here: what functions of the program compute, over the evaluator. No condition but those that each theorem states. -/
import Derived.Test.YthpkihimboiglaaTF
namespace Go.Abs
open Go.Proofs
set_option maxRecDepth 100000
set_option linter.unusedSimpArgs false
set_option linter.unusedVariables false

theorem alive45_eq : bodyW DC 12 [] [] = some (.bool true, []) := bodyW_iff.2 ⟨3000, by kernel_rfl⟩
end Go.Abs
