/- Proved here: what functions of the program compute, over the evaluator. No condition but those that each theorem states. -/
import Derived.Test.YtbnnaaadblpgiaaD15
namespace Go.Abs
open Go.Proofs
set_option maxRecDepth 100000
set_option linter.unusedSimpArgs false

def repA (s : List UInt8) (n m : Nat) : List V := List.replicate m (V.str s) ++ List.replicate (n - m) (V.str [])
theorem repA_length {s : List UInt8} {n m : Nat} (h : m ≤ n) : (repA s n m).length = n := by simp [repA]; omega
theorem repA_take {s : List UInt8} {n m : Nat} : (repA s n m).take m = List.replicate m (V.str s) := by simp [repA]
theorem repA_step {s : List UInt8} {n m k : Nat} (_h : m + k ≤ n) : List.replicate (m + k) (V.str s) ++ (repA s n m).drop (m + k) = repA s n (m + k) := by
  unfold repA
  rw [List.drop_append, List.length_replicate, List.drop_eq_nil_of_le (by simp), List.drop_replicate]
  simp only [List.nil_append, ← List.append_assoc, List.replicate_append_replicate]
  congr 2
  omega
theorem repA_full {s : List UInt8} {n : Nat} : repA s n n = List.replicate n (V.str s) := by simp [repA]
theorem repA_one {s : List UInt8} {n : Nat} (h : 1 ≤ n) : repA s n 1 = V.str s :: List.replicate (n - 1) (V.str []) := by simp [repA]

theorem wrap_u64' (n : Int) : IntKind.u64.wrap n = n % 18446744073709551616 := by simp [IntKind.wrap, IntKind.bits, IntKind.signed]
theorem mul_one_n (n : Nat) (hn : n ≤ 1000000) : mulX [.int .u64 1, .int .u64 n] = some (.tuple [.int .u64 0, .int .u64 n], []) := by
  have e0 : (1 : Int).toNat * (n : Int).toNat = n := by
    have : (1 : Int).toNat = 1 := rfl
    rw [this, Int.toNat_natCast, Nat.one_mul]
  simp only [mulX]
  rw [if_pos ⟨by omega, by omega, by omega, by omega⟩, e0, show n / 18446744073709551616 = 0 by omega, show n % 18446744073709551616 = n by omega]
  rfl
theorem call_ext_val {C : Ctx} {d : Bool} {f : FuncId} {xs ys : List V} {bs : List Nat} {H H' : Heap} {g : List V → Option (V × Heap)} {r : V} (h1 : C.extE f = none) (h2 : C.ext f = some g) (h3 : C.direct f = false) (hs : sealL H xs = some (ys, bs)) (hg : g ys = some (r, H'))
    (hr : hasRo r = false) (hb : H'.any hasRoB = false) : callW C d (.fn f []) xs H = some (ren (shift H.length) r, H ++ H'.map (renB (shift H.length))) := by
  rw [callW_ext h1 h2 h3, hs]
  simp only [hg, hr, hb]
  rfl
theorem mul_call (n : Nat) (hn : n ≤ 1000000) (d : Bool) (H : Heap) : callW DC d (.fn 35 []) [.int .u64 1, .int .u64 n] H = some (.tuple [.int .u64 0, .int .u64 n], H) := by
  have h := call_ext_val (C := DC) (d := d) (f := 35) (H := H) (g := mulX) rfl rfl rfl (xs := [.int .u64 1, .int .u64 n]) rfl (mul_one_n n hn) rfl rfl
  rw [h, List.map_nil, List.append_nil]
  rfl
theorem Repeat_eq (s : List UInt8) (n : Nat) (h1 : 1 ≤ n) (hn : n ≤ 1000000) : bodyW DC 27 [.sl [.str s], .int .i64 n] [] = some (.own 0 n 0 n, [.dat true 1 (List.replicate n (.str s))]) := by
  have e1 : ¬ ((n : Int) < 0) := by omega
  have e2 : IntKind.u64.wrap (n : Int) = n := by
    rw [wrap_u64']; omega
  have e3 := mul_call n hn
  have e6 : ¬ ((9223372036854775807 : Int) < n) := by omega
  have e7 : IntKind.i64.wrap (n : Int) = n := wrap_id (by omega) (by omega)
  have e8 : IntKind.u64.wrap 1 = 1 := by rw [wrap_u64']; omega
  have r1 : n * 16 ≤ room := by unfold room; omega
  have r2 : n ≤ room := by unfold room; omega
  (refine gives_iff ?_; refine go_func Try.f27 rfl rfl (by simp [Try.f27]) ?_; dsimp only [codeL, Try.f27, scL, sopsL, guardL, dstAt, loopKey])
  (repeat (first
    | (apply is_ok; (case hw => simp [-call35, e1, e2, e3, e6, e7, e8, r1, r2, h1]); (case he => simp [-call35, e1, e2, e3, e6, e7, e8, r1, r2, h1]; exact is_rfl))
    | (apply op_no; (case hw => simp [-call35, e1, e2, e3, e6, e7, e8, r1, r2, h1]))
    | refine op_nil ?_ | refine next_normal ?_ | refine go_seq ?_ | refine go_region ?_ | refine go_skip ?_ | refine go_block ?_ | refine inb_normal ?_
    | (apply go_yes; (case hc => simp [-call35, e1, e2, e3, e6, e7, e8, r1, r2, h1])) | (apply go_no; (case hc => simp [-call35, e1, e2, e3, e6, e7, e8, r1, r2, h1]))
    | refine go_exit ?_ | refine next_exit ?_ | refine inb_here ?_ | refine inb_past (by decide) ?_ | refine go_ret ?_ | refine next_ret ?_ | refine inb_ret ?_))
  have hst : ∀ m, m ≤ n → (repA s n m).length = n := fun m hm => repA_length hm
  refine go_while (σ := Nat) (fun m => [(7, .own 0 n 0 n), (8, .int .i64 m)]) (fun m => [.dat true 1 (repA s n m)]) (fun m => 1 ≤ m ∧ m ≤ n) (fun m => n - m) 1 (by simp [repA_one h1, show ofVal (.string ⟨#[]⟩) = V.str [] from rfl]) ⟨Nat.le_refl _, h1⟩ fun m ⟨hm1, hm2⟩ => ?_
  have hl := repA_length (s := s) hm2
  by_cases hlt : m < n
  · have hne : ¬ (m = n) := by omega
    have ht := repA_take (s := s) (n := n) (m := m)
    have hmin : min m (n - m) ≤ m := by omega
    have hk : m + min m (n - m) ≤ n := by omega
    have hs := repA_step (s := s) (n := n) (m := m) (k := min m (n - m)) hk
    have hw : IntKind.i64.wrap ((m : Int) + ((min m (n - m) : Nat) : Int)) = ((m + min m (n - m) : Nat) : Int) := by rw [wrap_id (by omega) (by omega)]; omega
    have hi1 : m ≤ n := hm2
    obtain ⟨k, hX⟩ : ∃ k, min m (n - m) = k := ⟨_, rfl⟩
    rw [hX] at hmin hk hs hw
    (repeat (first
    | (apply is_ok; (case hw => simp [hlt, hl, hne, ht, hi1, hm2]); (case he => simp [hlt, hl, hne, ht, hi1, hm2]; exact is_rfl))
    | (apply op_no; (case hw => simp [hlt, hl, hne, ht, hi1, hm2]))
    | refine op_nil ?_ | refine next_normal ?_ | refine go_seq ?_ | refine go_region ?_ | refine go_skip ?_ | refine go_block ?_ | refine inb_normal ?_
    | (apply go_yes; (case hc => simp [hlt, hl, hne, ht, hi1, hm2])) | (apply go_no; (case hc => simp [hlt, hl, hne, ht, hi1, hm2]))
    | refine go_exit ?_ | refine next_exit ?_ | refine inb_here ?_ | refine inb_past (by decide) ?_ | refine go_ret ?_ | refine next_ret ?_ | refine inb_ret ?_))
    have hk1 : 1 ≤ k := by omega
    refine ⟨m + k, by simp [hw, hs, hX], by show n - (m + k) < n - m; omega, by show 1 ≤ m + k; omega, hk⟩
  · have hmn : m = n := by omega
    subst hmn
    (repeat (first
    | (apply is_ok; (case hw => simp [hl]); (case he => simp [hl]; exact is_rfl))
    | (apply op_no; (case hw => simp [hl]))
    | refine op_nil ?_ | refine next_normal ?_ | refine go_seq ?_ | refine go_region ?_ | refine go_skip ?_ | refine go_block ?_ | refine inb_normal ?_
    | (apply go_yes; (case hc => simp [hl])) | (apply go_no; (case hc => simp [hl]))
    | refine go_exit ?_ | refine next_exit ?_ | refine inb_here ?_ | refine inb_past (by decide) ?_ | refine go_ret ?_ | refine next_ret ?_ | refine inb_ret ?_))
    (apply ends_ok; (case h1 => simp; exact is_rfl); (case h2 => simp; exact is_rfl))
    simp [repA_full]
end Go.Abs
