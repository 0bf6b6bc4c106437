/- Proved here: what functions of the program compute, over the evaluator. No condition but those that each theorem states. -/
import Derived.Test.YtpffmpllnpmkbaaDoorE18
namespace Go.Abs
open Go.Proofs
set_option maxRecDepth 100000
set_option linter.unusedSimpArgs false
set_option linter.unusedVariables false

theorem bool_of {P : Program} {t : TypeId} {x : V} (hu : P.underlying t = some .bool) (h : ArgT P t x) : ∃ b, x = .bool b := by
  obtain ⟨n, h1, h2⟩ := h
  rw [show aggT P t = some false by simp [aggT, hu]] at h2
  rw [cells_one (Option.some.inj h2).symm] at h1
  obtain ⟨m, h3⟩ := hasT_bool hu h1
  cases h3
  exact ⟨m, rfl⟩
theorem ints_of {x : V} (h : ArgT Tryd.prog 23 x) : ∃ l : List Int, x = .sl (ints l) ∧ l.length ≤ maxLen ∧ In64 l := by
  obtain ⟨n, h1, h2⟩ := h
  rw [show aggT Tryd.prog 23 = some false by kernel_rfl] at h2
  rw [cells_one (Option.some.inj h2).symm] at h1
  obtain ⟨S, h3, h4, h5⟩ := hasT_ints Tryd.underlying23 (cells_ne (n := 1) (by kernel_rfl) (by decide)) Tryd.underlying3 h1
  cases h3
  exact ⟨S, rfl, h4, fun x hx => wf_i64 (h5 x hx)⟩
end Go.Abs
