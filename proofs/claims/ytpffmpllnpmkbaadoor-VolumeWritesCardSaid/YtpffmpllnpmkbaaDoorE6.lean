/- Proved here: what functions of the program compute, over the evaluator. No condition but those that each theorem states. -/
import Derived.Test.YtpffmpllnpmkbaaDoorE5
namespace Go.Abs
open Go.Proofs
set_option maxRecDepth 100000
set_option linter.unusedSimpArgs false
set_option linter.unusedVariables false
attribute [local simp] spanV arrAtV

theorem word_range (x y : UInt8) : 0 ≤ word x y ∧ word x y ≤ 65535 := by
  have := x.toNat_lt; have := y.toNat_lt
  unfold word; omega

def wd (s : List UInt8) (i : Nat) : Int := word (s.getD (2 * i) 0) (s.getD (2 * i + 1) 0)
def wdL (s : List UInt8) : List Int := [wd s 3, wd s 4, wd s 5, wd s 6, wd s 7, wd s 8, wd s 9, wd s 10]
abbrev ino0 : V := .agg [.int .i64 0, .int .i64 0, .int .i64 0, .int .i64 0, .int .i64 0, .int .i64 0, .int .i64 0, .int .i64 0, .int .i64 0, .int .i64 0, .int .i64 0]
def okS (s : List UInt8) : Prop := s.length = 32 ∧ validI (wd s 0) (wd s 1) (wd s 2) (wdL s) ∧ bytesI (wd s 0) (wd s 1) (wd s 2) (wdL s) = s
instance (s : List UInt8) : Decidable (okS s) := by unfold okS; infer_instance
/-- What an encoding says. -/
def parseV (s : List UInt8) : V := if okS s then inoV (wd s 0) (wd s 1) (wd s 2) (wdL s) else ino0
def parseE (s : List UInt8) : Int := if okS s then 0 else 9

theorem in64_wd (s : List UInt8) : In64 (wd s 0 :: wd s 1 :: wd s 2 :: wdL s) := by
  intro x hx
  have : ∃ a b, x = word a b := by
    simp only [wdL, List.mem_cons, List.not_mem_nil, or_false] at hx
    rcases hx with rfl | rfl | rfl | rfl | rfl | rfl | rfl | rfl | rfl | rfl | rfl <;> exact ⟨_, _, rfl⟩
  obtain ⟨a, b, rfl⟩ := this
  have := word_range a b
  omega

end Go.Abs
