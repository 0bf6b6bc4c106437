/- Proved here: what functions of the program compute, over the evaluator. No condition but those that each theorem states. -/
import Derived.Test.YtbnnaaadblpgiaaD11
namespace Go.Abs
open Go.Proofs
set_option maxRecDepth 100000
set_option linter.unusedSimpArgs false

theorem wr_cells {n : Nat} {cs : List V} (h : HasT Try.prog n 42 cs) : ∃ w : Int × List UInt8, V.agg cs = wrV w ∧ (-9223372036854775808 ≤ w.1 ∧ w.1 ≤ 9223372036854775807) := by
  obtain ⟨m, rfl, h1, h2⟩ := hasT_struct Try.underlying42 h
  have hl : cs.length = 2 := h1.trans (by kernel_rfl)
  match cs, hl with
  | [a, b], _ =>
    have f0 := h2 0 _ rfl
    have f1 := h2 1 _ rfl
    obtain ⟨k, e1, hk⟩ := hasT_int Try.underlying3 f0
    obtain ⟨s, e2, _⟩ := hasT_str Try.underlying9 f1
    have e1' : [a] = [V.int .i64 k] := e1
    have e2' : [b] = [V.str s] := e2
    cases e1'
    cases e2'
    exact ⟨(k, s), rfl, wf_i64 hk⟩
theorem writes_of {x : V} (h : ArgT Try.prog 43 x) : ∃ l : List (Int × List UInt8), x = .sl (l.map wrV) ∧ l.length ≤ maxLen := by
  obtain ⟨n, h1, h2⟩ := h
  rw [show aggT Try.prog 43 = some false by kernel_rfl] at h2
  rw [cells_one (Option.some.inj h2).symm] at h1
  obtain ⟨m, es, rfl, h3, h4, h5⟩ := hasT_slice Try.underlying43 (cells_ne (n := 2) (by kernel_rfl) (by decide)) h1
  cases h3
  obtain ⟨l, rfl, _⟩ := map_of (p := fun _ => True) (f := wrV) fun x hx => by
    obtain ⟨h6, h7⟩ := h5 x hx
    rw [show aggT Try.prog 42 = some true by kernel_rfl] at h6
    obtain ⟨cs, rfl⟩ := cells_some (Option.some.inj h6).symm
    obtain ⟨w, h8, _⟩ := wr_cells h7
    exact ⟨w, h8, trivial⟩
  exact ⟨l, rfl, by simpa using h4⟩

end Go.Abs
