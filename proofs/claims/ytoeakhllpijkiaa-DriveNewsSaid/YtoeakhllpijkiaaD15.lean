/- Proved here: what functions of the program compute, over the evaluator. No condition but those that each theorem states. -/
import Derived.Test.YtoeakhllpijkiaaD14
namespace Go.Abs
open Go.Proofs
theorem wf_u8 {m : Int} (h : (Lit.int .u8 m).wf = true) : 0 ≤ m ∧ m ≤ 255 := by
  simpa [Lit.wf, IntKind.min, IntKind.max, IntKind.signed, IntKind.bits] using h
theorem u8_of {t : TypeId} {P : Program} {x : V} (hu : P.underlying t = some (.int .u8)) (h : ArgT P t x) : ∃ k : Nat, x = .int .u8 k ∧ k ≤ 255 := by
  obtain ⟨m, rfl, h1⟩ := int_of hu h
  obtain ⟨h2, h3⟩ := wf_u8 h1
  exact ⟨m.toNat, by rw [Int.toNat_of_nonneg h2], by omega⟩
end Go.Abs
