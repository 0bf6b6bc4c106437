/- Proved here: what functions of the program compute, over the evaluator. No condition but those that each theorem states. -/
import Derived.Test.YtpffmpllnpmkbaaDoorD10
namespace Go.Abs
open Go.Proofs
set_option maxRecDepth 100000
set_option linter.unusedSimpArgs false

def SmallP (l : List (Int × List UInt8)) : Prop := l.length ≤ 60 ∧ ∀ w ∈ l, w.2.length ≤ 200
instance (l : List (Int × List UInt8)) : Decidable (SmallP l) := by unfold SmallP; infer_instance

theorem applyS_length (B : List Int) (fuse : Int) : ∀ (l : List (Int × List UInt8)) (S : List (List UInt8)) (i : Nat), (applyS B fuse S i l).1.length = S.length
  | [], S, i => rfl
  | w :: l, S, i => by
    rw [applyS]
    split
    · rfl
    · split
      · rw [applyS_length B fuse l, putS_length]
      · rfl

end Go.Abs
