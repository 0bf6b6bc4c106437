/- Proved here: what functions of the program compute, over the evaluator. No condition but those that each theorem states. -/
import Derived.Test.YtbnnaaadblpgiaaD3
namespace Go.Abs
open Go.Proofs
set_option maxRecDepth 100000
set_option linter.unusedSimpArgs false

theorem alive_eq : bodyW DC 5 [] [] = some (.bool true, []) := bodyW_iff.2 ⟨1000, by kernel_rfl⟩

end Go.Abs
