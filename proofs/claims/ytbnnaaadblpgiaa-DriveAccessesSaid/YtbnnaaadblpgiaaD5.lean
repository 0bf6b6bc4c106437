/- Proved here: what functions of the program compute, over the evaluator. No condition but those that each theorem states. -/
import Derived.Test.YtbnnaaadblpgiaaD4
import Derived.Test.YtbnnaaadblpgiaaOPN
namespace Go.Abs
open Go.Proofs
set_option maxRecDepth 100000
set_option linter.unusedSimpArgs false
set_option linter.unusedVariables false

theorem drv_cells {n : Nat} {cs : List V} (h : HasT Try.prog n 25 cs) : ∃ S B, cs = [.sl (strs S), .sl (ints B)] ∧ S.length ≤ maxLen ∧ B.length ≤ maxLen := by
  obtain ⟨m, rfl, h1, h2⟩ := hasT_struct Try.underlying25 h
  have hl : cs.length = 2 := h1.trans (by kernel_rfl)
  match cs, hl with
  | [a, b], _ =>
    have f0 := h2 0 _ rfl
    have f1 := h2 1 _ rfl
    obtain ⟨S, e1, hS, _⟩ := hasT_strs Try.underlying22 (cells_ne (n := 1) (by kernel_rfl) (by decide)) Try.underlying9 f0
    obtain ⟨B, e2, hB, _⟩ := hasT_ints Try.underlying23 (cells_ne (n := 1) (by kernel_rfl) (by decide)) Try.underlying3 f1
    have e1' : [a] = [V.sl (strs S)] := e1
    have e2' : [b] = [V.sl (ints B)] := e2
    cases e1'
    cases e2'
    exact ⟨S, B, rfl, hS, hB⟩
theorem drv_of {x : V} (h : ArgT Try.prog 25 x) : ∃ S B, x = drv S B ∧ S.length ≤ maxLen ∧ B.length ≤ maxLen := by
  obtain ⟨n, h1, h2⟩ := h
  rw [show aggT Try.prog 25 = some true by kernel_rfl] at h2
  obtain ⟨cs, rfl⟩ := cells_some (Option.some.inj h2).symm
  obtain ⟨S, B, h3, h4⟩ := drv_cells h1
  cases h3
  exact ⟨S, B, rfl, h4⟩

end Go.Abs
