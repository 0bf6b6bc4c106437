/- Proved here: what functions of the program compute, over the evaluator. No condition but those that each theorem states. -/
import Derived.Test.YtoeakhllpijkiaaD16
namespace Go.Abs
open Go.Proofs
set_option maxRecDepth 100000
set_option linter.unusedSimpArgs false

abbrev zs128 : List UInt8 := List.replicate 128 0

theorem blank_eq : repeatX [.str [0], .int .i64 128] = some (.str zs128, []) := by
  have h : Lib.repeatL [0] (128 : Int).toNat = zs128 := repeatL_zero 128
  simp only [repeatX]
  rw [if_pos ⟨by omega, by omega, by simp⟩, h]
theorem blank_call (d : Bool) (H : Heap) : callW DC d (.fn 29 []) [.str [0], .int .i64 128] H = some (.str zs128, H) := by
  have h := call_ext_val (C := DC) (d := d) (f := 29) (H := H) (g := repeatX) rfl rfl (xs := [.str [0], .int .i64 128]) rfl blank_eq rfl rfl
  rw [h, List.map_nil, List.append_nil]
  rfl
theorem New_eq (n : Nat) (h1 : 1 ≤ n) (h2 : n ≤ 256) : bodyW DC 10 [.int .i64 n] [] = some (.tuple [.agg [.own 0 n 0 n, .nils], .int .i64 0], [.dat true 1 (List.replicate n (.str zs128))]) := by
  have e1 : ¬ ((n : Int) < 1) := by omega
  have e2 : ¬ ((256 : Int) < n) := by omega
  have hR := Repeat_eq zs128 n h1 (by omega)
  have hz := blank_call
  generalize zs128 = z at hR hz
  (refine gives_iff ?_; refine go_func Try.f10 rfl rfl (by simp [Try.f10]) ?_; dsimp only [codeL, Try.f10, scL, sopsL, guardL, dstAt, loopKey])
  (repeat (first
    | (apply is_ok; (case hw => simp [-call29, e1, e2, hR, hz]); (case he => simp [-call29, e1, e2, hR, hz]; exact is_rfl))
    | (apply op_no; (case hw => simp [-call29, e1, e2, hR, hz]))
    | refine op_nil ?_ | refine next_normal ?_ | refine go_seq ?_ | refine go_region ?_ | refine go_skip ?_ | refine go_block ?_ | refine inb_normal ?_
    | (apply go_yes; (case hc => simp [-call29, e1, e2, hR, hz])) | (apply go_no; (case hc => simp [-call29, e1, e2, hR, hz]))
    | refine go_exit ?_ | refine next_exit ?_ | refine inb_here ?_ | refine inb_past (by decide) ?_ | refine go_ret ?_ | refine next_ret ?_ | refine inb_ret ?_))
  (apply ends_ok; (case h1 => simp; exact is_rfl); (case h2 => simp; exact is_rfl))
  simp

theorem NewR_eq (n : Nat) (h1 : 1 ≤ n) (h2 : n ≤ 256) : bodyW DC 11 [.int .i64 n] [] = some (.tuple [.agg [.own 0 n 0 n, .own 1 0 0 0], .int .i64 0], [.dat true 1 (List.replicate n (.str zs128)), .dat true 1 []]) := by
  have e1 : ¬ ((n : Int) < 1) := by omega
  have e2 : ¬ ((256 : Int) < n) := by omega
  have hZ := zeros_eq 128 (by omega)
  have hZ' : bodyW DC 31 [.int .i64 128] [] = some (.str zs128, []) := hZ
  generalize zs128 = z at hZ'
  (refine gives_iff ?_; refine go_func Try.f11 rfl rfl (by simp [Try.f11]) ?_; dsimp only [codeL, Try.f11, scL, sopsL, guardL, dstAt, loopKey])
  (repeat (first
    | (apply is_ok; (case hw => simp [e1, e2]); (case he => simp [e1, e2]; exact is_rfl))
    | (apply op_no; (case hw => simp [e1, e2]))
    | refine op_nil ?_ | refine next_normal ?_ | refine go_seq ?_ | refine go_region ?_ | refine go_skip ?_ | refine go_block ?_ | refine inb_normal ?_
    | (apply go_yes; (case hc => simp [e1, e2])) | (apply go_no; (case hc => simp [e1, e2]))
    | refine go_exit ?_ | refine next_exit ?_ | refine inb_here ?_ | refine inb_past (by decide) ?_ | refine go_ret ?_ | refine next_ret ?_ | refine inb_ret ?_))
  refine go_count n (fun i => [(0, .int .i64 n), (2, .ptr 0 1 0 0), (4, .ptr 3 1 0 0), (5, .int .i64 i)])
    (fun i => [.box (.agg [.own 1 0 0 0, .own 2 0 0 0]), .dat true 1 [], .dat true 1 [], .box (.agg [.own 4 i 0 i, .own 5 0 0 0]), .dat true 1 (List.replicate i (.str z)), .dat true 1 []]) (fun _ => True) (by simp) trivial fun i hi _ => ?_
  by_cases hlt : i < n
  · have hw : IntKind.i64.wrap ((i : Int) + 1) = (i : Int) + 1 := wrap_id (by omega) (by omega)
    have r1 : (i + 1) * 16 ≤ room := by unfold room; omega
    have r2 : i + 1 ≤ room := by unfold room; omega
    (repeat (first
    | (apply is_ok; (case hw => simp [hlt, hZ', r1, r2]); (case he => simp [hlt, hZ', r1, r2]; exact is_rfl))
    | (apply op_no; (case hw => simp [hlt, hZ', r1, r2]))
    | refine op_nil ?_ | refine next_normal ?_ | refine go_seq ?_ | refine go_region ?_ | refine go_skip ?_ | refine go_block ?_ | refine inb_normal ?_
    | (apply go_yes; (case hc => simp [hlt, hZ', r1, r2])) | (apply go_no; (case hc => simp [hlt, hZ', r1, r2]))
    | refine go_exit ?_ | refine next_exit ?_ | refine inb_here ?_ | refine inb_past (by decide) ?_ | refine go_ret ?_ | refine next_ret ?_ | refine inb_ret ?_))
    exact ⟨hlt, by simp [hw, List.replicate_succ'], trivial⟩
  · have : i = n := by omega
    subst this
    (repeat (first
    | (apply is_ok; (case hw => simp [hlt]); (case he => simp [hlt]; exact is_rfl))
    | (apply op_no; (case hw => simp [hlt]))
    | refine op_nil ?_ | refine next_normal ?_ | refine go_seq ?_ | refine go_region ?_ | refine go_skip ?_ | refine go_block ?_ | refine inb_normal ?_
    | (apply go_yes; (case hc => simp [hlt])) | (apply go_no; (case hc => simp [hlt]))
    | refine go_exit ?_ | refine next_exit ?_ | refine inb_here ?_ | refine inb_past (by decide) ?_ | refine go_ret ?_ | refine next_ret ?_ | refine inb_ret ?_))
    (apply ends_ok; (case h1 => simp; exact is_rfl); (case h2 => simp; exact is_rfl))
    simp

theorem New_no (n : Int) (h : ¬ (1 ≤ n ∧ n ≤ 256)) : bodyW DC 10 [.int .i64 n] [] = some (.tuple [.agg [.nils, .nils], .int .i64 2], []) := by
  by_cases h1 : n < 1
  · (refine gives_iff ?_; refine go_func Try.f10 rfl rfl (by simp [Try.f10]) ?_; dsimp only [codeL, Try.f10, scL, sopsL, guardL, dstAt, loopKey])
    (repeat (first
    | (apply is_ok; (case hw => simp [h1]); (case he => simp [h1]; exact is_rfl))
    | (apply op_no; (case hw => simp [h1]))
    | refine op_nil ?_ | refine next_normal ?_ | refine go_seq ?_ | refine go_region ?_ | refine go_skip ?_ | refine go_block ?_ | refine inb_normal ?_
    | (apply go_yes; (case hc => simp [h1])) | (apply go_no; (case hc => simp [h1]))
    | refine go_exit ?_ | refine next_exit ?_ | refine inb_here ?_ | refine inb_past (by decide) ?_ | refine go_ret ?_ | refine next_ret ?_ | refine inb_ret ?_))
    (apply ends_ok; (case h1 => simp; exact is_rfl); (case h2 => simp; exact is_rfl))
    simp
  · have e2 : ((256 : Int) < n) := by omega
    (refine gives_iff ?_; refine go_func Try.f10 rfl rfl (by simp [Try.f10]) ?_; dsimp only [codeL, Try.f10, scL, sopsL, guardL, dstAt, loopKey])
    (repeat (first
    | (apply is_ok; (case hw => simp [h1, e2]); (case he => simp [h1, e2]; exact is_rfl))
    | (apply op_no; (case hw => simp [h1, e2]))
    | refine op_nil ?_ | refine next_normal ?_ | refine go_seq ?_ | refine go_region ?_ | refine go_skip ?_ | refine go_block ?_ | refine inb_normal ?_
    | (apply go_yes; (case hc => simp [h1, e2])) | (apply go_no; (case hc => simp [h1, e2]))
    | refine go_exit ?_ | refine next_exit ?_ | refine inb_here ?_ | refine inb_past (by decide) ?_ | refine go_ret ?_ | refine next_ret ?_ | refine inb_ret ?_))
    (apply ends_ok; (case h1 => simp; exact is_rfl); (case h2 => simp; exact is_rfl))
    simp
theorem NewR_no (n : Int) (h : ¬ (1 ≤ n ∧ n ≤ 256)) : bodyW DC 11 [.int .i64 n] [] = some (.tuple [.agg [.nils, .nils], .int .i64 2], []) := by
  by_cases h1 : n < 1
  · (refine gives_iff ?_; refine go_func Try.f11 rfl rfl (by simp [Try.f11]) ?_; dsimp only [codeL, Try.f11, scL, sopsL, guardL, dstAt, loopKey])
    (repeat (first
    | (apply is_ok; (case hw => simp [h1]); (case he => simp [h1]; exact is_rfl))
    | (apply op_no; (case hw => simp [h1]))
    | refine op_nil ?_ | refine next_normal ?_ | refine go_seq ?_ | refine go_region ?_ | refine go_skip ?_ | refine go_block ?_ | refine inb_normal ?_
    | (apply go_yes; (case hc => simp [h1])) | (apply go_no; (case hc => simp [h1]))
    | refine go_exit ?_ | refine next_exit ?_ | refine inb_here ?_ | refine inb_past (by decide) ?_ | refine go_ret ?_ | refine next_ret ?_ | refine inb_ret ?_))
    (apply ends_ok; (case h1 => simp; exact is_rfl); (case h2 => simp; exact is_rfl))
    simp
  · have e2 : ((256 : Int) < n) := by omega
    (refine gives_iff ?_; refine go_func Try.f11 rfl rfl (by simp [Try.f11]) ?_; dsimp only [codeL, Try.f11, scL, sopsL, guardL, dstAt, loopKey])
    (repeat (first
    | (apply is_ok; (case hw => simp [h1, e2]); (case he => simp [h1, e2]; exact is_rfl))
    | (apply op_no; (case hw => simp [h1, e2]))
    | refine op_nil ?_ | refine next_normal ?_ | refine go_seq ?_ | refine go_region ?_ | refine go_skip ?_ | refine go_block ?_ | refine inb_normal ?_
    | (apply go_yes; (case hc => simp [h1, e2])) | (apply go_no; (case hc => simp [h1, e2]))
    | refine go_exit ?_ | refine next_exit ?_ | refine inb_here ?_ | refine inb_past (by decide) ?_ | refine go_ret ?_ | refine next_ret ?_ | refine inb_ret ?_))
    (apply ends_ok; (case h1 => simp; exact is_rfl); (case h2 => simp; exact is_rfl))
    simp

theorem DriveNews_eq (n : Int) : bodyW DC 3 [.int .i64 n] [] = some (.bool true, []) := by
  have hA := alive_eq
  by_cases h : 1 ≤ n ∧ n ≤ 256
  · obtain ⟨m, rfl⟩ : ∃ m : Nat, n = m := ⟨n.toNat, by omega⟩
    have hN := New_eq m (by omega) (by omega)
    have hN' := NewR_eq m (by omega) (by omega)
    have hS := SameDrive_eq (List.replicate m zs128) (List.replicate m zs128) [] [] (by simp; omega) (by simp; omega) (by simp)
    simp only [drv, strs, ints, List.map_nil, List.map_replicate] at hS
    generalize zs128 = z at hN hN' hS
    (refine gives_iff ?_; refine go_func Try.f3 rfl rfl (by simp [Try.f3]) ?_; dsimp only [codeL, Try.f3, scL, sopsL, guardL, dstAt, loopKey])
    (repeat (first
    | (apply is_ok; (case hw => simp [hN, hN', hS, hA]); (case he => simp [hN, hN', hS, hA]; exact is_rfl))
    | (apply op_no; (case hw => simp [hN, hN', hS, hA]))
    | refine op_nil ?_ | refine next_normal ?_ | refine go_seq ?_ | refine go_region ?_ | refine go_skip ?_ | refine go_block ?_ | refine inb_normal ?_
    | (apply go_yes; (case hc => simp [hN, hN', hS, hA])) | (apply go_no; (case hc => simp [hN, hN', hS, hA]))
    | refine go_exit ?_ | refine next_exit ?_ | refine inb_here ?_ | refine inb_past (by decide) ?_ | refine go_ret ?_ | refine next_ret ?_ | refine inb_ret ?_))
    (apply ends_ok; (case h1 => simp; exact is_rfl); (case h2 => simp; exact is_rfl))
    simp
  · have hN := New_no n h
    have hN' := NewR_no n h
    have hS := SameDrive_eq [] [] [] [] (by simp) (by simp) (by simp)
    simp only [drv, strs, ints, List.map_nil] at hS
    (refine gives_iff ?_; refine go_func Try.f3 rfl rfl (by simp [Try.f3]) ?_; dsimp only [codeL, Try.f3, scL, sopsL, guardL, dstAt, loopKey])
    (repeat (first
    | (apply is_ok; (case hw => simp [hN, hN', hS, hA]); (case he => simp [hN, hN', hS, hA]; exact is_rfl))
    | (apply op_no; (case hw => simp [hN, hN', hS, hA]))
    | refine op_nil ?_ | refine next_normal ?_ | refine go_seq ?_ | refine go_region ?_ | refine go_skip ?_ | refine go_block ?_ | refine inb_normal ?_
    | (apply go_yes; (case hc => simp [hN, hN', hS, hA])) | (apply go_no; (case hc => simp [hN, hN', hS, hA]))
    | refine go_exit ?_ | refine next_exit ?_ | refine inb_here ?_ | refine inb_past (by decide) ?_ | refine go_ret ?_ | refine next_ret ?_ | refine inb_ret ?_))
    (apply ends_ok; (case h1 => simp; exact is_rfl); (case h2 => simp; exact is_rfl))
    simp
end Go.Abs
