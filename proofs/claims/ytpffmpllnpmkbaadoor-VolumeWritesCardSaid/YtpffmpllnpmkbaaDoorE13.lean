/- Proved here: what functions of the program compute, over the evaluator. No condition but those that each theorem states. -/
import Derived.Test.YtpffmpllnpmkbaaDoorE12
namespace Go.Abs
open Go.Proofs
set_option maxRecDepth 100000
set_option linter.unusedSimpArgs false
set_option linter.unusedVariables false

/-- Is a drive bounded? -/
def SmallD (S : List (List UInt8)) (B : List Int) : Prop := (∀ i ∈ List.range S.length, i < 257 → (S.getD i []).length ≤ 200) ∧ S.length ≤ 256 ∧ B.length ≤ 100
instance (S : List (List UInt8)) (B : List Int) : Decidable (SmallD S B) := by unfold SmallD; infer_instance
theorem eqL_wr (i j : Int) (s u : List UInt8) : eqL Tryd.prog 10000 40 [.int .i64 i, .str s] [.int .i64 j, .str u] = some (decide (i = j) && decide (s = u)) := by
  have s1 : Tryd.prog.stoodInHeld 40 = false := by kernel_rfl
  have o1 : okT Tryd.prog 3 = true := by kernel_rfl
  have o2 : okT Tryd.prog 9 = true := by kernel_rfl
  have z1 : sizeL Tryd.prog 3 = 1 := by kernel_rfl
  have z2 : sizeL Tryd.prog 9 = 1 := by kernel_rfl
  rw [show (10000 : Nat) = 9997 + 3 from rfl]
  generalize 9997 = n
  simp [eqL, eqFs, eqNs, s1, o1, o2, z1, z2, Tryd.underlying40, Tryd.underlying9, Tryd.underlying3]
  rw [Bool.eq_iff_iff]
  simp
theorem same_wr (i : Int) (s : List UInt8) : binV Tryd.prog .eql 40 (.agg [.int .i64 i, .str s]) (.agg [.int .i64 i, .str s]) = some (.bool true) := by
  have h := (binV_agg (P := Tryd.prog) (t := 40) (d := 10000) rfl (by kernel_rfl) (by kernel_rfl) rfl rfl (eqL_wr i i s s)).1
  simp only [decide_true, Bool.and_self] at h
  exact h

theorem getV_shape (S : List (List UInt8)) (B : List Int) (n : Int) : ∃ k l z a b c d e f g h, getV S B n = .agg [.int .i64 k, .int .i64 l, .int .i64 z, .int .i64 a, .int .i64 b, .int .i64 c, .int .i64 d, .int .i64 e, .int .i64 f, .int .i64 g, .int .i64 h] ∧ In64 [k, l, z, a, b, c, d, e, f, g, h] := by
  unfold getV
  split
  · exact parseV_shape _
  · exact ⟨0, 0, 0, 0, 0, 0, 0, 0, 0, 0, 0, rfl, by intro x hx; simp at hx; omega⟩

end Go.Abs
