/- Proved here: what functions of the program compute, over the evaluator. No condition but those that each theorem states. -/
import Derived.Test.YtbnnaaadblpgiaaD16
namespace Go.Abs
open Go.Proofs
set_option maxRecDepth 100000
set_option linter.unusedSimpArgs false

abbrev zs128 : List UInt8 := List.replicate 128 0

theorem blank_eq : repeatX [.str [0], .int .i64 128] = some (.str zs128, []) := by
  have h : Lib.repeatL [0] (128 : Int).toNat = zs128 := repeatL_zero 128
  simp only [repeatX]
  rw [if_pos ⟨by omega, by omega, by simp⟩, h]
theorem blank_call (d : Bool) (H : Heap) : callW DC d (.fn 26 []) [.str [0], .int .i64 128] H = some (.str zs128, H) := by
  have h := call_ext_val (C := DC) (d := d) (f := 26) (H := H) (g := repeatX) rfl rfl rfl (xs := [.str [0], .int .i64 128]) rfl blank_eq rfl rfl
  rw [h, List.map_nil, List.append_nil]
  rfl
theorem New_eq (n : Nat) (h1 : 1 ≤ n) (h2 : n ≤ 256) : bodyW DC 15 [.int .i64 n] [] = some (.tuple [.agg [.own 0 n 0 n, .nils], .int .i64 0], [.dat true 1 (List.replicate n (.str zs128))]) := by
  have e1 : ¬ ((n : Int) < 1) := by omega
  have e2 : ¬ ((256 : Int) < n) := by omega
  have hR := Repeat_eq zs128 n h1 (by omega)
  have hz := blank_call
  generalize zs128 = z at hR hz
  (refine gives_iff ?_; refine go_func Try.f15 rfl rfl (by simp [Try.f15]) ?_; dsimp only [codeL, Try.f15, scL, sopsL, guardL, dstAt, loopKey])
  (repeat (first
    | (apply is_ok; (case hw => simp [-call26, e1, e2, hR, hz]); (case he => simp [-call26, e1, e2, hR, hz]; exact is_rfl))
    | (apply op_no; (case hw => simp [-call26, e1, e2, hR, hz]))
    | refine op_nil ?_ | refine next_normal ?_ | refine go_seq ?_ | refine go_region ?_ | refine go_skip ?_ | refine go_block ?_ | refine inb_normal ?_
    | (apply go_yes; (case hc => simp [-call26, e1, e2, hR, hz])) | (apply go_no; (case hc => simp [-call26, e1, e2, hR, hz]))
    | refine go_exit ?_ | refine next_exit ?_ | refine inb_here ?_ | refine inb_past (by decide) ?_ | refine go_ret ?_ | refine next_ret ?_ | refine inb_ret ?_))
  (apply ends_ok; (case h1 => simp; exact is_rfl); (case h2 => simp; exact is_rfl))
  simp

theorem New_no (n : Int) (h : ¬ (1 ≤ n ∧ n ≤ 256)) : bodyW DC 15 [.int .i64 n] [] = some (.tuple [.agg [.nils, .nils], .int .i64 2], []) := by
  by_cases h1 : n < 1
  · (refine gives_iff ?_; refine go_func Try.f15 rfl rfl (by simp [Try.f15]) ?_; dsimp only [codeL, Try.f15, scL, sopsL, guardL, dstAt, loopKey])
    (repeat (first
    | (apply is_ok; (case hw => simp [h1]); (case he => simp [h1]; exact is_rfl))
    | (apply op_no; (case hw => simp [h1]))
    | refine op_nil ?_ | refine next_normal ?_ | refine go_seq ?_ | refine go_region ?_ | refine go_skip ?_ | refine go_block ?_ | refine inb_normal ?_
    | (apply go_yes; (case hc => simp [h1])) | (apply go_no; (case hc => simp [h1]))
    | refine go_exit ?_ | refine next_exit ?_ | refine inb_here ?_ | refine inb_past (by decide) ?_ | refine go_ret ?_ | refine next_ret ?_ | refine inb_ret ?_))
    (apply ends_ok; (case h1 => simp; exact is_rfl); (case h2 => simp; exact is_rfl))
    simp
  · have e2 : ((256 : Int) < n) := by omega
    (refine gives_iff ?_; refine go_func Try.f15 rfl rfl (by simp [Try.f15]) ?_; dsimp only [codeL, Try.f15, scL, sopsL, guardL, dstAt, loopKey])
    (repeat (first
    | (apply is_ok; (case hw => simp [h1, e2]); (case he => simp [h1, e2]; exact is_rfl))
    | (apply op_no; (case hw => simp [h1, e2]))
    | refine op_nil ?_ | refine next_normal ?_ | refine go_seq ?_ | refine go_region ?_ | refine go_skip ?_ | refine go_block ?_ | refine inb_normal ?_
    | (apply go_yes; (case hc => simp [h1, e2])) | (apply go_no; (case hc => simp [h1, e2]))
    | refine go_exit ?_ | refine next_exit ?_ | refine inb_here ?_ | refine inb_past (by decide) ?_ | refine go_ret ?_ | refine next_ret ?_ | refine inb_ret ?_))
    (apply ends_ok; (case h1 => simp; exact is_rfl); (case h2 => simp; exact is_rfl))
    simp
end Go.Abs
