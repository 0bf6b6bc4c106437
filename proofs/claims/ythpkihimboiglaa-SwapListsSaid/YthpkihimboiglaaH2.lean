/- Proved here: what functions of the program compute, over the evaluator. No condition but those that each theorem states. -/
import Derived.Test.YthpkihimboiglaaF1
import Derived.Test.YthpkihimboiglaaE1
namespace Go.Abs
open Go.Proofs
set_option maxRecDepth 100000
set_option linter.unusedSimpArgs false
set_option linter.unusedVariables false

def exV (p : Ex) : V := .agg [.int .i64 p.1, .int .i64 p.2]
def UsuP (p : Ex) : Prop := 0 ≤ p.1 ∧ p.1 ≤ 1048576 ∧ 0 ≤ p.2 ∧ p.2 ≤ 1048576
instance (p : Ex) : Decidable (UsuP p) := by unfold UsuP; infer_instance
@[simp] theorem hasRoL_ex (l : List Ex) : hasRoL (l.map exV) = false := by
  rw [hasRoL_any, List.any_eq_false]
  intro x hx
  obtain ⟨w, _, rfl⟩ := List.mem_map.1 hx
  simp [exV]

theorem Usual_eq (p : Ex) : bodyW DC 9 [.agg [.int .i64 p.1, .int .i64 p.2]] [] = some (.bool (decide (UsuP p)), []) := by
  unfold UsuP
  by_cases h1 : 0 ≤ p.1 <;> by_cases h2 : p.1 ≤ 1048576 <;> by_cases h3 : 0 ≤ p.2 <;>
  · (refine gives_iff ?_; refine go_func Try.f9 rfl rfl (by simp [Try.f9]) ?_; dsimp only [codeL, Try.f9, scL, sopsL, guardL, dstAt, loopKey])
    (repeat (first
    | (apply is_ok; (case hw => simp [h1, h2, h3]); (case he => simp [h1, h2, h3]; exact is_rfl))
    | (apply op_no; (case hw => simp [h1, h2, h3]))
    | refine op_nil ?_ | refine next_normal ?_ | refine go_seq ?_ | refine go_region ?_ | refine go_skip ?_ | refine go_block ?_ | refine inb_normal ?_
    | (apply go_yes; (case hc => simp [h1, h2, h3])) | (apply go_no; (case hc => simp [h1, h2, h3]))
    | refine go_exit ?_ | refine next_exit ?_ | refine inb_here ?_ | refine inb_past (by decide) ?_ | refine go_ret ?_ | refine next_ret ?_ | refine inb_ret ?_))
    (apply ends_ok; (case h1 => simp; exact is_rfl); (case h2 => simp; exact is_rfl))
    simp [h1, h2, h3]

theorem Meet_eq (a b : Ex) (ha : 0 ≤ a.1 ∧ a.1 ≤ 4000000 ∧ 0 ≤ a.2 ∧ a.2 ≤ 4000000) (hb : 0 ≤ b.1 ∧ b.1 ≤ 4000000 ∧ 0 ≤ b.2 ∧ b.2 ≤ 4000000) : bodyW DC 60 [.agg [.int .i64 a.1, .int .i64 a.2], .agg [.int .i64 b.1, .int .i64 b.2]] [] = some (.bool (decide (meetP a b)), []) := by
  have w1 : IntKind.i64.wrap (b.1 + b.2) = b.1 + b.2 := wrap_id (by omega) (by omega)
  have w2 : IntKind.i64.wrap (a.1 + a.2) = a.1 + a.2 := wrap_id (by omega) (by omega)
  unfold meetP
  by_cases h1 : 0 < a.2 <;> by_cases h2 : 0 < b.2 <;> by_cases h3 : a.1 < b.1 + b.2 <;>
  · (refine gives_iff ?_; refine go_func Try.f60 rfl rfl (by simp [Try.f60]) ?_; dsimp only [codeL, Try.f60, scL, sopsL, guardL, dstAt, loopKey])
    (repeat (first
    | (apply is_ok; (case hw => simp [h1, h2, h3, w1, w2]); (case he => simp [h1, h2, h3, w1, w2]; exact is_rfl))
    | (apply op_no; (case hw => simp [h1, h2, h3, w1, w2]))
    | refine op_nil ?_ | refine next_normal ?_ | refine go_seq ?_ | refine go_region ?_ | refine go_skip ?_ | refine go_block ?_ | refine inb_normal ?_
    | (apply go_yes; (case hc => simp [h1, h2, h3, w1, w2])) | (apply go_no; (case hc => simp [h1, h2, h3, w1, w2]))
    | refine go_exit ?_ | refine next_exit ?_ | refine inb_here ?_ | refine inb_past (by decide) ?_ | refine go_ret ?_ | refine next_ret ?_ | refine inb_ret ?_))
    (apply ends_ok; (case h1 => simp; exact is_rfl); (case h2 => simp; exact is_rfl))
    simp [h1, h2, h3]

theorem Within_eq (a b : Ex) (ha : 0 ≤ a.1 ∧ a.1 ≤ 4000000 ∧ 0 < a.2 ∧ a.2 ≤ 4000000) (hb : 0 ≤ b.1 ∧ b.1 ≤ 4000000 ∧ 0 ≤ b.2 ∧ b.2 ≤ 4000000) : bodyW DC 61 [.agg [.int .i64 a.1, .int .i64 a.2], .agg [.int .i64 b.1, .int .i64 b.2]] [] = some (.bool (decide (b.1 ≤ a.1 ∧ a.1 + a.2 ≤ b.1 + b.2)), []) := by
  have w1 : IntKind.i64.wrap (b.1 + b.2) = b.1 + b.2 := wrap_id (by omega) (by omega)
  have w2 : IntKind.i64.wrap (a.1 + a.2) = a.1 + a.2 := wrap_id (by omega) (by omega)
  have h0 : ¬ a.2 < 1 := by omega
  by_cases h1 : b.1 ≤ a.1 <;>
  · (refine gives_iff ?_; refine go_func Try.f61 rfl rfl (by simp [Try.f61]) ?_; dsimp only [codeL, Try.f61, scL, sopsL, guardL, dstAt, loopKey])
    (repeat (first
    | (apply is_ok; (case hw => simp [h0, h1, w1, w2]); (case he => simp [h0, h1, w1, w2]; exact is_rfl))
    | (apply op_no; (case hw => simp [h0, h1, w1, w2]))
    | refine op_nil ?_ | refine next_normal ?_ | refine go_seq ?_ | refine go_region ?_ | refine go_skip ?_ | refine go_block ?_ | refine inb_normal ?_
    | (apply go_yes; (case hc => simp [h0, h1, w1, w2])) | (apply go_no; (case hc => simp [h0, h1, w1, w2]))
    | refine go_exit ?_ | refine next_exit ?_ | refine inb_here ?_ | refine inb_past (by decide) ?_ | refine go_ret ?_ | refine next_ret ?_ | refine inb_ret ?_))
    (apply ends_ok; (case h1 => simp; exact is_rfl); (case h2 => simp; exact is_rfl))
    simp [h1]

theorem end_eq (a : Ex) (ha : 0 ≤ a.1 ∧ a.1 ≤ 4000000 ∧ 0 ≤ a.2 ∧ a.2 ≤ 4000000) : bodyW DC 30 [.agg [.int .i64 a.1, .int .i64 a.2]] [] = some (.int .i64 (a.1 + a.2), []) := by
  have w2 : IntKind.i64.wrap (a.1 + a.2) = a.1 + a.2 := wrap_id (by omega) (by omega)
  (refine gives_iff ?_; refine go_func Try.f30 rfl rfl (by simp [Try.f30]) ?_; dsimp only [codeL, Try.f30, scL, sopsL, guardL, dstAt, loopKey])
  (repeat (first
    | (apply is_ok; (case hw => simp [w2]); (case he => simp [w2]; exact is_rfl))
    | (apply op_no; (case hw => simp [w2]))
    | refine op_nil ?_ | refine next_normal ?_ | refine go_seq ?_ | refine go_region ?_ | refine go_skip ?_ | refine go_block ?_ | refine inb_normal ?_
    | (apply go_yes; (case hc => simp [w2])) | (apply go_no; (case hc => simp [w2]))
    | refine go_exit ?_ | refine next_exit ?_ | refine inb_here ?_ | refine inb_past (by decide) ?_ | refine go_ret ?_ | refine next_ret ?_ | refine inb_ret ?_))
  (apply ends_ok; (case h1 => simp; exact is_rfl); (case h2 => simp; exact is_rfl))
  simp

theorem meet_eq (a b : Ex) (ha : 0 ≤ a.1 ∧ a.1 ≤ 4000000 ∧ 0 ≤ a.2 ∧ a.2 ≤ 4000000) (hb : 0 ≤ b.1 ∧ b.1 ≤ 4000000 ∧ 0 ≤ b.2 ∧ b.2 ≤ 4000000) : bodyW DC 35 [.agg [.int .i64 a.1, .int .i64 a.2], .agg [.int .i64 b.1, .int .i64 b.2]] [] = some (.bool (decide (meetP a b)), []) := by
  have v1 := end_eq a ha
  have v2 := end_eq b hb
  unfold meetP
  by_cases h1 : 0 < a.2 <;> by_cases h2 : 0 < b.2 <;> by_cases h3 : a.1 < b.1 + b.2 <;>
  · (refine gives_iff ?_; refine go_func Try.f35 rfl rfl (by simp [Try.f35]) ?_; dsimp only [codeL, Try.f35, scL, sopsL, guardL, dstAt, loopKey])
    (repeat (first
    | (apply is_ok; (case hw => simp [h1, h2, h3, v1, v2]); (case he => simp [h1, h2, h3, v1, v2]; exact is_rfl))
    | (apply op_no; (case hw => simp [h1, h2, h3, v1, v2]))
    | refine op_nil ?_ | refine next_normal ?_ | refine go_seq ?_ | refine go_region ?_ | refine go_skip ?_ | refine go_block ?_ | refine inb_normal ?_
    | (apply go_yes; (case hc => simp [h1, h2, h3, v1, v2])) | (apply go_no; (case hc => simp [h1, h2, h3, v1, v2]))
    | refine go_exit ?_ | refine next_exit ?_ | refine inb_here ?_ | refine inb_past (by decide) ?_ | refine go_ret ?_ | refine next_ret ?_ | refine inb_ret ?_))
    (apply ends_ok; (case h1 => simp; exact is_rfl); (case h2 => simp; exact is_rfl))
    simp [h1, h2, h3]

theorem within_eq (a b : Ex) (ha : 0 ≤ a.1 ∧ a.1 ≤ 4000000 ∧ 0 < a.2 ∧ a.2 ≤ 4000000) (hb : 0 ≤ b.1 ∧ b.1 ≤ 4000000 ∧ 0 ≤ b.2 ∧ b.2 ≤ 4000000) : bodyW DC 32 [.agg [.int .i64 a.1, .int .i64 a.2], .agg [.int .i64 b.1, .int .i64 b.2]] [] = some (.bool (decide (b.1 ≤ a.1 ∧ a.1 + a.2 ≤ b.1 + b.2)), []) := by
  have v1 := end_eq a (by omega)
  have v2 := end_eq b hb
  have h0 : ¬ a.2 < 1 := by omega
  by_cases h1 : b.1 ≤ a.1 <;>
  · (refine gives_iff ?_; refine go_func Try.f32 rfl rfl (by simp [Try.f32]) ?_; dsimp only [codeL, Try.f32, scL, sopsL, guardL, dstAt, loopKey])
    (repeat (first
    | (apply is_ok; (case hw => simp [h0, h1, v1, v2]); (case he => simp [h0, h1, v1, v2]; exact is_rfl))
    | (apply op_no; (case hw => simp [h0, h1, v1, v2]))
    | refine op_nil ?_ | refine next_normal ?_ | refine go_seq ?_ | refine go_region ?_ | refine go_skip ?_ | refine go_block ?_ | refine inb_normal ?_
    | (apply go_yes; (case hc => simp [h0, h1, v1, v2])) | (apply go_no; (case hc => simp [h0, h1, v1, v2]))
    | refine go_exit ?_ | refine next_exit ?_ | refine inb_here ?_ | refine inb_past (by decide) ?_ | refine go_ret ?_ | refine next_ret ?_ | refine inb_ret ?_))
    (apply ends_ok; (case h1 => simp; exact is_rfl); (case h2 => simp; exact is_rfl))
    simp [h1]
end Go.Abs
