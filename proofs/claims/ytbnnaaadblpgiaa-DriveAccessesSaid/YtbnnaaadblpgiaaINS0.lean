/- Proved here: what functions of the program compute, over the evaluator. No condition but those that each theorem states. -/
import Derived.Test.YtbnnaaadblpgiaaA7
namespace Go.Abs
set_option linter.unusedVariables false
set_option linter.unusedSimpArgs false

def toInts : List V → Option (List Int)
  | [] => some []
  | .int .i64 n :: r => (toInts r).map (n :: ·)
  | _ => none
@[simp] theorem toInts_ints (l : List Int) : toInts (l.map fun n => V.int .i64 n) = some l := by
  induction l with
  | nil => rfl
  | cons a l ih => simp [toInts, ih]
theorem toInts_eq : ∀ {es : List V} {l : List Int}, toInts es = some l → es = l.map fun n => V.int .i64 n
  | [], l, h => by cases h; rfl
  | e :: r, l, h => by
    cases e
    case int k n =>
      cases k
      case i64 =>
        simp only [toInts, Option.map_eq_some_iff] at h
        obtain ⟨m, hm, rfl⟩ := h
        rw [toInts_eq hm]
        rfl
      all_goals cases h
    all_goals cases h

/-- slices.Insert of one number, evaluated. -/
def insAt1X : List V → Heap → Option (V × Heap)
  | [.own b tot off len, .int .i64 i, .own b2 1 0 1], H => match H[b]?, H[b2]? with
    | some (.dat true s es), some (.dat _ s2 [.int .i64 v]) => match toInts es with
      | some l => if s = 1 ∧ s2 = 1 ∧ off = 0 ∧ len = tot ∧ es.length = tot ∧ 0 ≤ i ∧ i ≤ tot ∧ b ≠ b2 ∧ (tot + 1) * 8 ≤ room ∧ tot + 1 ≤ room then
          some (.own b (tot + 1) 0 (tot + 1), H.set b (.dat true 1 ((l.take i.toNat ++ v :: l.drop i.toNat).map fun n => V.int .i64 n))) else none
      | none => none
    | _, _ => none
  | _, _ => none

end Go.Abs
