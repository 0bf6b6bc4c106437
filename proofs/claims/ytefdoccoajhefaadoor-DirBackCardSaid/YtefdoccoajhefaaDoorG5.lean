/- Proved here: what functions of the program compute, over the evaluator. No condition but those that each theorem states. -/
import Derived.Test.YtefdoccoajhefaaDoorOPN
import Derived.Test.YtefdoccoajhefaaDoorG2
namespace Go.Abs
open Go.Proofs
set_option maxRecDepth 100000
set_option linter.unusedSimpArgs false
set_option linter.unusedVariables false

/-- An entry of a directory. -/
def entV (p : List UInt8 × Int) : V := .agg [.str p.1, .int .i64 p.2]
def In64E (l : List (List UInt8 × Int)) : Prop := ∀ p ∈ l, -9223372036854775808 ≤ p.2 ∧ p.2 ≤ 9223372036854775807

theorem ent_cells {n : Nat} {cs : List V} (h : HasT Tryd.prog n 42 cs) : ∃ p : List UInt8 × Int, .agg cs = entV p ∧ (p.1.length ≤ maxLen ∧ -9223372036854775808 ≤ p.2 ∧ p.2 ≤ 9223372036854775807) := by
  obtain ⟨m, rfl, h1, h2⟩ := hasT_struct Tryd.underlying42 h
  have hl : cs.length = 2 := h1.trans (by kernel_rfl)
  match cs, hl with
  | [a, b], _ =>
    have f0 := h2 0 _ rfl
    have f1 := h2 1 _ rfl
    obtain ⟨s, e1, hS⟩ := hasT_str Tryd.underlying9 f0
    obtain ⟨z, e2, hZ⟩ := hasT_int Tryd.underlying3 f1
    have e1' : [a] = [V.str s] := e1
    have e2' : [b] = [V.int .i64 z] := e2
    cases e1'
    cases e2'
    exact ⟨(s, z), rfl, hS, wf_i64 hZ⟩

theorem ents_of {x : V} (h : ArgT Tryd.prog 28 x) : ∃ l : List (List UInt8 × Int), x = .sl (l.map entV) ∧ l.length ≤ maxLen ∧ In64E l := by
  obtain ⟨n, h1, h2⟩ := h
  rw [show aggT Tryd.prog 28 = some false by kernel_rfl] at h2
  rw [cells_one (Option.some.inj h2).symm] at h1
  obtain ⟨m, es, rfl, h3, h4, h5⟩ := hasT_slice Tryd.underlying28 (cells_ne (n := 2) (by kernel_rfl) (by decide)) h1
  cases h3
  obtain ⟨l, rfl, hp⟩ := map_of (p := fun w => w.1.length ≤ maxLen ∧ -9223372036854775808 ≤ w.2 ∧ w.2 ≤ 9223372036854775807) (f := entV) fun x hx => by
    obtain ⟨h6, h7⟩ := h5 x hx
    rw [show aggT Tryd.prog 42 = some true by kernel_rfl] at h6
    obtain ⟨cs, rfl⟩ := cells_some (Option.some.inj h6).symm
    obtain ⟨w, h8, h9⟩ := ent_cells h7
    exact ⟨w, h8, h9⟩
  exact ⟨l, rfl, by simpa using h4, fun p hp' => (hp p hp').2⟩
end Go.Abs
