/- Proved here: what functions of the program compute, over the evaluator. No condition but those that each theorem states. -/
import Derived.Test.YtpffmpllnpmkbaaDoorE8
import Derived.Test.YtpffmpllnpmkbaaDoorD8
namespace Go.Abs
open Go.Proofs
set_option maxRecDepth 100000
set_option linter.unusedSimpArgs false
set_option linter.unusedVariables false

theorem u8s_append (a b : List UInt8) : u8s (a ++ b) = u8s a ++ u8s b := by simp [u8s]
@[simp] theorem u8s_length (a : List UInt8) : (u8s a).length = a.length := by simp [u8s]
/-- A text filled with zeros. -/
def padS (s : List UInt8) : List UInt8 := s ++ List.replicate (128 - s.length) 0
theorem padS_length {s : List UInt8} (h : s.length ≤ 128) : (padS s).length = 128 := by simp [padS]; omega

theorem padded_eq (s : List UInt8) (h : s.length ≤ 128) : bodyW DC 30 [.str s] [] = some (.str (padS s), []) := by
  have e4 : IntKind.i64.wrap (128 - (s.length : Int)) = ((128 - s.length : Nat) : Int) := by rw [wrap_id (by omega) (by omega)]; omega
  have e5 : 128 - s.length ≤ 140737488355328 := by omega
  have e6 : ((128 - s.length : Nat) : Int) ≤ 9223372036854775807 := by omega
  have r3 : s.length + (128 - s.length) ≤ room := by unfold room; omega
  (refine gives_iff ?_; refine go_func Tryd.f30 rfl rfl (by simp [Tryd.f30]) ?_; dsimp only [codeL, Tryd.f30, scL, sopsL, guardL, dstAt, loopKey])
  (repeat (first
    | (apply is_ok; (case hw => simp [e4, e5, e6, r3, repeatX, repeatL_zero]); (case he => simp [e4, e5, e6, r3, repeatX, repeatL_zero]; exact is_rfl))
    | (apply op_no; (case hw => simp [e4, e5, e6, r3, repeatX, repeatL_zero]))
    | refine op_nil ?_ | refine next_normal ?_ | refine go_seq ?_ | refine go_region ?_ | refine go_skip ?_ | refine go_block ?_ | refine inb_normal ?_
    | (apply go_yes; (case hc => simp [e4, e5, e6, r3, repeatX, repeatL_zero])) | (apply go_no; (case hc => simp [e4, e5, e6, r3, repeatX, repeatL_zero]))
    | refine go_exit ?_ | refine next_exit ?_ | refine inb_here ?_ | refine inb_past (by decide) ?_ | refine go_ret ?_ | refine next_ret ?_ | refine inb_ret ?_))
  (apply ends_ok; (case h1 => simp; exact is_rfl); (case h2 => simp; exact is_rfl))
  simp [padS]

theorem zeros37_eq (s : List UInt8) (h : s.length ≤ 128) : bodyW DC 27 [.str s] [] = some (.str (padS s), []) := by
  have r0 : s.length ≤ room := by unfold room; omega
  (refine gives_iff ?_; refine go_func Tryd.f27 rfl rfl (by simp [Tryd.f27]) ?_; dsimp only [codeL, Tryd.f27, scL, sopsL, guardL, dstAt, loopKey])
  (repeat (first
    | (apply is_ok; (case hw => simp [r0]); (case he => simp [r0]; exact is_rfl))
    | (apply op_no; (case hw => simp [r0]))
    | refine op_nil ?_ | refine next_normal ?_ | refine go_seq ?_ | refine go_region ?_ | refine go_skip ?_ | refine go_block ?_ | refine inb_normal ?_
    | (apply go_yes; (case hc => simp [r0])) | (apply go_no; (case hc => simp [r0]))
    | refine go_exit ?_ | refine next_exit ?_ | refine inb_here ?_ | refine inb_past (by decide) ?_ | refine go_ret ?_ | refine next_ret ?_ | refine inb_ret ?_))
  refine go_count (128 - s.length) (fun i => [(3, .own 0 (s.length + i) 0 (s.length + i))]) (fun i => [.dat true 1 (u8s (s ++ List.replicate i 0))]) (fun _ => True) (by simp) trivial fun i hi _ => ?_
  have hl : (s ++ List.replicate i (0 : UInt8)).length = s.length + i := by simp
  have ha : u8s (s ++ List.replicate (i + 1) 0) = u8s (s ++ List.replicate i 0) ++ [.int .u8 0] := by
    rw [List.replicate_succ', ← List.append_assoc, u8s_append _ [0]]; rfl
  have hq : i = 128 - s.length → s ++ List.replicate i (0 : UInt8) = padS s := fun h => by rw [h]; rfl
  generalize s ++ List.replicate i (0 : UInt8) = t at hl ha hq
  generalize hn : s.length + i = n at hl
  have r1 : n + 1 ≤ room := by unfold room; omega
  by_cases hlt : n < 128
  · have hlt' : (n : Int) < 128 := by omega
    (repeat (first
    | (apply is_ok; (case hw => simp [hl, hlt, hlt', r1]); (case he => simp [hl, hlt, hlt', r1]; exact is_rfl))
    | (apply op_no; (case hw => simp [hl, hlt, hlt', r1]))
    | refine op_nil ?_ | refine next_normal ?_ | refine go_seq ?_ | refine go_region ?_ | refine go_skip ?_ | refine go_block ?_ | refine inb_normal ?_
    | (apply go_yes; (case hc => simp [hl, hlt, hlt', r1])) | (apply go_no; (case hc => simp [hl, hlt, hlt', r1]))
    | refine go_exit ?_ | refine next_exit ?_ | refine inb_here ?_ | refine inb_past (by decide) ?_ | refine go_ret ?_ | refine next_ret ?_ | refine inb_ret ?_))
    exact ⟨by omega, by simp [ha, ← hn, Nat.add_assoc], trivial⟩
  · have hlt' : ¬ ((n : Int) < 128) := by omega
    (repeat (first
    | (apply is_ok; (case hw => simp [hl, hlt, hlt']); (case he => simp [hl, hlt, hlt']; exact is_rfl))
    | (apply op_no; (case hw => simp [hl, hlt, hlt']))
    | refine op_nil ?_ | refine next_normal ?_ | refine go_seq ?_ | refine go_region ?_ | refine go_skip ?_ | refine go_block ?_ | refine inb_normal ?_
    | (apply go_yes; (case hc => simp [hl, hlt, hlt'])) | (apply go_no; (case hc => simp [hl, hlt, hlt']))
    | refine go_exit ?_ | refine next_exit ?_ | refine inb_here ?_ | refine inb_past (by decide) ?_ | refine go_ret ?_ | refine next_ret ?_ | refine inb_ret ?_))
    (apply ends_ok; (case h1 => simp; exact is_rfl); (case h2 => simp; exact is_rfl))
    simp [hq (by omega)]

theorem Get_eq (s : List UInt8) (i : Nat) (h : i + 2 ≤ s.length) (hs : s.length ≤ 1000000) :
    bodyW DC 40 [.str s, .int .i64 i, .int .i64 2] [] = some (.tuple [.int .i64 (word (s[i]'(by omega)) (s[i + 1]'(by omega))), .int .i64 ((i : Int) + 2), .int .i64 0], []) := by
  have h0 : i < s.length := by omega
  have h1 : i + 1 < s.length := by omega
  generalize hx : s[i]'h0 = x
  generalize hy : s[i + 1]'h1 = y
  have g0 : s[i]? = some x := by rw [List.getElem?_eq_getElem h0, hx]
  have g1 : s[i + 1]? = some y := by rw [List.getElem?_eq_getElem h1, hy]
  have bx := x.toNat_lt
  have by_ := y.toNat_lt
  have a1 : IntKind.i64.wrap ((i : Int) + 2) = i + 2 := wrap_id (by omega) (by omega)
  have a3 : IntKind.i64.wrap ((i : Int) + 1) = i + 1 := wrap_id (by omega) (by omega)
  have a4 : IntKind.i64.wrap (i : Int) = i := wrap_id (by omega) (by omega)
  have a6 : IntKind.i64.wrap ((s.length : Int) - i) = s.length - i := wrap_id (by omega) (by omega)
  have a7 : ¬ ((s.length : Int) - i < 2) := by omega
  have a8 : ¬ ((s.length : Int) < i) := by omega
  have a8' : ¬ (s.length < i) := by omega
  have a9 : ((i : Int) + 1).toNat = i + 1 := by omega
  have c1 : (0 : Int) ≤ (i : Int) + 1 := by omega
  have d1 : IntKind.i64.wrap ((y.toNat : Int) * 256) = y.toNat * 256 := wrap_byte256 y
  have d2 : intOp .or .i64 0 (y.toNat : Int) = some (.int .i64 y.toNat) := by
    show some (V.int .i64 (IntKind.i64.wrap ((BitVec.ofInt 64 0 ||| BitVec.ofInt 64 (y.toNat : Int)).toNat : Int))) = _
    rw [show BitVec.ofInt 64 0 = 0#64 from rfl, BitVec.zero_or, BitVec.toNat_ofInt]
    have e1 : ((y.toNat : Int) % (2 ^ 64 : Nat)).toNat = y.toNat := by omega
    rw [e1, wrap_byte]
  have d4 : intOp .or .i64 ((y.toNat : Int) * 256) (x.toNat : Int) = some (.int .i64 (word x y)) := by
    rw [← or_bytes x y]
    show some (V.int .i64 (IntKind.i64.wrap ((BitVec.ofInt 64 ((y.toNat : Int) * 256) ||| BitVec.ofInt 64 (x.toNat : Int)).toNat : Int))) = some (V.int .i64 (IntKind.i64.wrap ((BitVec.ofInt 64 (x.toNat : Int) ||| BitVec.ofInt 64 ((y.toNat : Int) * 256)).toNat : Int)))
    rw [BitVec.or_comm]
  have d3 : ¬ ((i : Int) < 0) := by omega
  (refine gives_iff ?_; refine go_func Tryd.f40 rfl rfl (by simp [Tryd.f40]) ?_; dsimp only [codeL, Tryd.f40, scL, sopsL, guardL, dstAt, loopKey])
  (repeat (first
    | (apply is_ok; (case hw => simp [-intOp, a1, a3, a4, a6, a7, a8, a8', a9, c1, d1, d2, d3, d4, g0, g1, h0, h1, hx, hy]); (case he => simp [-intOp, a1, a3, a4, a6, a7, a8, a8', a9, c1, d1, d2, d3, d4, g0, g1, h0, h1, hx, hy]; exact is_rfl))
    | (apply op_no; (case hw => simp [-intOp, a1, a3, a4, a6, a7, a8, a8', a9, c1, d1, d2, d3, d4, g0, g1, h0, h1, hx, hy]))
    | refine op_nil ?_ | refine next_normal ?_ | refine go_seq ?_ | refine go_region ?_ | refine go_skip ?_ | refine go_block ?_ | refine inb_normal ?_
    | (apply go_yes; (case hc => simp [-intOp, a1, a3, a4, a6, a7, a8, a8', a9, c1, d1, d2, d3, d4, g0, g1, h0, h1, hx, hy])) | (apply go_no; (case hc => simp [-intOp, a1, a3, a4, a6, a7, a8, a8', a9, c1, d1, d2, d3, d4, g0, g1, h0, h1, hx, hy]))
    | refine go_exit ?_ | refine next_exit ?_ | refine inb_here ?_ | refine inb_past (by decide) ?_ | refine go_ret ?_ | refine next_ret ?_ | refine inb_ret ?_
    | (apply go_unroll; (case hh => simp [-intOp, a1, a3, a4, a6, a7, a8, a8', a9, c1, d1, d2, d3, d4, g0, g1, h0, h1, hx, hy]; exact is_rfl))))
  (apply ends_ok; (case h1 => simp; exact is_rfl); (case h2 => simp; exact is_rfl))
  simp

theorem fits_eq (n w : Int) (h : 0 ≤ n ∧ n ≤ 1000000) : bodyW DC 33 [.int .i64 n, .int .i64 w] [] = some (.bool (decide (32 ≤ n ∧ n ≤ 256 ∧ 0 ≤ w ∧ w ≤ n - 32)), []) := by
  have e : IntKind.i64.wrap (n - 32) = n - 32 := wrap_id (by omega) (by omega)
  by_cases h1 : 32 ≤ n
  · by_cases h2 : n ≤ 256
    · by_cases h3 : 0 ≤ w
      · (refine gives_iff ?_; refine go_func Tryd.f33 rfl rfl (by simp [Tryd.f33]) ?_; dsimp only [codeL, Tryd.f33, scL, sopsL, guardL, dstAt, loopKey])
        (repeat (first
    | (apply is_ok; (case hw => simp [e, h1, h2, h3]); (case he => simp [e, h1, h2, h3]; exact is_rfl))
    | (apply op_no; (case hw => simp [e, h1, h2, h3]))
    | refine op_nil ?_ | refine next_normal ?_ | refine go_seq ?_ | refine go_region ?_ | refine go_skip ?_ | refine go_block ?_ | refine inb_normal ?_
    | (apply go_yes; (case hc => simp [e, h1, h2, h3])) | (apply go_no; (case hc => simp [e, h1, h2, h3]))
    | refine go_exit ?_ | refine next_exit ?_ | refine inb_here ?_ | refine inb_past (by decide) ?_ | refine go_ret ?_ | refine next_ret ?_ | refine inb_ret ?_))
        (apply ends_ok; (case h1 => simp; exact is_rfl); (case h2 => simp; exact is_rfl))
        simp [h1, h2, h3]
      · (refine gives_iff ?_; refine go_func Tryd.f33 rfl rfl (by simp [Tryd.f33]) ?_; dsimp only [codeL, Tryd.f33, scL, sopsL, guardL, dstAt, loopKey])
        (repeat (first
    | (apply is_ok; (case hw => simp [e, h1, h2, h3]); (case he => simp [e, h1, h2, h3]; exact is_rfl))
    | (apply op_no; (case hw => simp [e, h1, h2, h3]))
    | refine op_nil ?_ | refine next_normal ?_ | refine go_seq ?_ | refine go_region ?_ | refine go_skip ?_ | refine go_block ?_ | refine inb_normal ?_
    | (apply go_yes; (case hc => simp [e, h1, h2, h3])) | (apply go_no; (case hc => simp [e, h1, h2, h3]))
    | refine go_exit ?_ | refine next_exit ?_ | refine inb_here ?_ | refine inb_past (by decide) ?_ | refine go_ret ?_ | refine next_ret ?_ | refine inb_ret ?_))
        (apply ends_ok; (case h1 => simp; exact is_rfl); (case h2 => simp; exact is_rfl))
        simp [h1, h2, h3]
    · (refine gives_iff ?_; refine go_func Tryd.f33 rfl rfl (by simp [Tryd.f33]) ?_; dsimp only [codeL, Tryd.f33, scL, sopsL, guardL, dstAt, loopKey])
      (repeat (first
    | (apply is_ok; (case hw => simp [e, h1, h2]); (case he => simp [e, h1, h2]; exact is_rfl))
    | (apply op_no; (case hw => simp [e, h1, h2]))
    | refine op_nil ?_ | refine next_normal ?_ | refine go_seq ?_ | refine go_region ?_ | refine go_skip ?_ | refine go_block ?_ | refine inb_normal ?_
    | (apply go_yes; (case hc => simp [e, h1, h2])) | (apply go_no; (case hc => simp [e, h1, h2]))
    | refine go_exit ?_ | refine next_exit ?_ | refine inb_here ?_ | refine inb_past (by decide) ?_ | refine go_ret ?_ | refine next_ret ?_ | refine inb_ret ?_))
      (apply ends_ok; (case h1 => simp; exact is_rfl); (case h2 => simp; exact is_rfl))
      simp [h1, h2]
  · (refine gives_iff ?_; refine go_func Tryd.f33 rfl rfl (by simp [Tryd.f33]) ?_; dsimp only [codeL, Tryd.f33, scL, sopsL, guardL, dstAt, loopKey])
    (repeat (first
    | (apply is_ok; (case hw => simp [e, h1]); (case he => simp [e, h1]; exact is_rfl))
    | (apply op_no; (case hw => simp [e, h1]))
    | refine op_nil ?_ | refine next_normal ?_ | refine go_seq ?_ | refine go_region ?_ | refine go_skip ?_ | refine go_block ?_ | refine inb_normal ?_
    | (apply go_yes; (case hc => simp [e, h1])) | (apply go_no; (case hc => simp [e, h1]))
    | refine go_exit ?_ | refine next_exit ?_ | refine inb_here ?_ | refine inb_past (by decide) ?_ | refine go_ret ?_ | refine next_ret ?_ | refine inb_ret ?_))
    (apply ends_ok; (case h1 => simp; exact is_rfl); (case h2 => simp; exact is_rfl))
    simp [h1]

def superS (n w : Int) : List UInt8 := padS ([69, 77, 86, 49] ++ (put2 n ++ put2 w))
theorem super_eq (n w : Int) (hn : n ≤ 9223372036854775807) (hw : w ≤ 9223372036854775807) : bodyW DC 36 [.int .i64 n, .int .i64 w] [] = some (.str (superS n w), []) := by
  have hp := padded_eq ([69, 77, 86, 49] ++ (put2 n ++ put2 w)) (by simp)
  have p1 := Put_eq n hn
  have p2 := Put_eq w hw
  unfold superS
  simp only [List.cons_append, List.nil_append] at hp ⊢
  (refine gives_iff ?_; refine go_func Tryd.f36 rfl rfl (by simp [Tryd.f36]) ?_; dsimp only [codeL, Tryd.f36, scL, sopsL, guardL, dstAt, loopKey])
  (repeat (first
    | (apply is_ok; (case hw => simp [p1, p2, hp, room]); (case he => simp [p1, p2, hp, room]; exact is_rfl))
    | (apply op_no; (case hw => simp [p1, p2, hp, room]))
    | refine op_nil ?_ | refine next_normal ?_ | refine go_seq ?_ | refine go_region ?_ | refine go_skip ?_ | refine go_block ?_ | refine inb_normal ?_
    | (apply go_yes; (case hc => simp [p1, p2, hp, room])) | (apply go_no; (case hc => simp [p1, p2, hp, room]))
    | refine go_exit ?_ | refine next_exit ?_ | refine inb_here ?_ | refine inb_past (by decide) ?_ | refine go_ret ?_ | refine next_ret ?_ | refine inb_ret ?_))
  (apply ends_ok; (case h1 => simp; exact is_rfl); (case h2 => simp; exact is_rfl))
  simp
theorem head_eq (n w : Int) (hn : n ≤ 9223372036854775807) (hw : w ≤ 9223372036854775807) : bodyW DC 46 [.int .i64 n, .int .i64 w] [] = some (.str (superS n w), []) := by
  have hp := zeros37_eq ([69, 77, 86, 49] ++ (put2 n ++ put2 w)) (by simp)
  have p1 := PutR_eq n hn
  have p2 := PutR_eq w hw
  unfold superS
  simp only [List.cons_append, List.nil_append] at hp ⊢
  (refine gives_iff ?_; refine go_func Tryd.f46 rfl rfl (by simp [Tryd.f46]) ?_; dsimp only [codeL, Tryd.f46, scL, sopsL, guardL, dstAt, loopKey])
  (repeat (first
    | (apply is_ok; (case hw => simp [p1, p2, hp, room]); (case he => simp [p1, p2, hp, room]; exact is_rfl))
    | (apply op_no; (case hw => simp [p1, p2, hp, room]))
    | refine op_nil ?_ | refine next_normal ?_ | refine go_seq ?_ | refine go_region ?_ | refine go_skip ?_ | refine go_block ?_ | refine inb_normal ?_
    | (apply go_yes; (case hc => simp [p1, p2, hp, room])) | (apply go_no; (case hc => simp [p1, p2, hp, room]))
    | refine go_exit ?_ | refine next_exit ?_ | refine inb_here ?_ | refine inb_past (by decide) ?_ | refine go_ret ?_ | refine next_ret ?_ | refine inb_ret ?_))
  (apply ends_ok; (case h1 => simp; exact is_rfl); (case h2 => simp; exact is_rfl))
  simp

theorem bad_eq (S : List (List UInt8)) (B : List Int) (hB : B.length ≤ maxLen) (k : Int) : bodyW DC 25 [drv S B, .int .i64 k] [] = some (.bool (decide (k ∈ B)), []) := by
  unfold maxLen at hB
  (refine gives_iff ?_; refine go_func Tryd.f25 rfl rfl (by simp [Tryd.f25]) ?_; dsimp only [codeL, Tryd.f25, scL, sopsL, guardL, dstAt, loopKey])
  (repeat (first
    | (apply is_ok; (case hw => simp); (case he => simp; exact is_rfl))
    | (apply op_no; (case hw => simp))
    | refine op_nil ?_ | refine next_normal ?_ | refine go_seq ?_ | refine go_region ?_ | refine go_skip ?_ | refine go_block ?_ | refine inb_normal ?_
    | (apply go_yes; (case hc => simp)) | (apply go_no; (case hc => simp))
    | refine go_exit ?_ | refine next_exit ?_ | refine inb_here ?_ | refine inb_past (by decide) ?_ | refine go_ret ?_ | refine next_ret ?_ | refine inb_ret ?_))
  refine go_count B.length (fun i => [(1, .int .i64 k), (2, .ptr 0 1 0 0), (5, .int .i64 i)]) (fun _ => [.box (drv S B)]) (fun i => ∀ j (hj : j < B.length), j < i → B[j] ≠ k) (by simp) (by simp) fun i hi hI => ?_
  by_cases hlt : i < B.length
  · have hw : IntKind.i64.wrap ((i : Int) + 1) = (i : Int) + 1 := wrap_id (by omega) (by omega)
    by_cases h3 : B[i] = k
    · (repeat (first
    | (apply is_ok; (case hw => simp [hlt, h3]); (case he => simp [hlt, h3]; exact is_rfl))
    | (apply op_no; (case hw => simp [hlt, h3]))
    | refine op_nil ?_ | refine next_normal ?_ | refine go_seq ?_ | refine go_region ?_ | refine go_skip ?_ | refine go_block ?_ | refine inb_normal ?_
    | (apply go_yes; (case hc => simp [hlt, h3])) | (apply go_no; (case hc => simp [hlt, h3]))
    | refine go_exit ?_ | refine next_exit ?_ | refine inb_here ?_ | refine inb_past (by decide) ?_ | refine go_ret ?_ | refine next_ret ?_ | refine inb_ret ?_))
      (apply ends_ok; (case h1 => simp; exact is_rfl); (case h2 => simp; exact is_rfl))
      have : k ∈ B := h3 ▸ List.getElem_mem hlt
      simp [this]
    · (repeat (first
    | (apply is_ok; (case hw => simp [hlt, h3]); (case he => simp [hlt, h3]; exact is_rfl))
    | (apply op_no; (case hw => simp [hlt, h3]))
    | refine op_nil ?_ | refine next_normal ?_ | refine go_seq ?_ | refine go_region ?_ | refine go_skip ?_ | refine go_block ?_ | refine inb_normal ?_
    | (apply go_yes; (case hc => simp [hlt, h3])) | (apply go_no; (case hc => simp [hlt, h3]))
    | refine go_exit ?_ | refine next_exit ?_ | refine inb_here ?_ | refine inb_past (by decide) ?_ | refine go_ret ?_ | refine next_ret ?_ | refine inb_ret ?_))
      exact ⟨hlt, by simp [hw], fun j hj hji => by
        by_cases hje : j = i
        · subst hje; exact h3
        · exact hI j hj (by omega)⟩
  · (repeat (first
    | (apply is_ok; (case hw => simp [hlt]); (case he => simp [hlt]; exact is_rfl))
    | (apply op_no; (case hw => simp [hlt]))
    | refine op_nil ?_ | refine next_normal ?_ | refine go_seq ?_ | refine go_region ?_ | refine go_skip ?_ | refine go_block ?_ | refine inb_normal ?_
    | (apply go_yes; (case hc => simp [hlt])) | (apply go_no; (case hc => simp [hlt]))
    | refine go_exit ?_ | refine next_exit ?_ | refine inb_here ?_ | refine inb_past (by decide) ?_ | refine go_ret ?_ | refine next_ret ?_ | refine inb_ret ?_))
    (apply ends_ok; (case h1 => simp; exact is_rfl); (case h2 => simp; exact is_rfl))
    have : k ∉ B := fun h => by
      obtain ⟨j, hj, h⟩ := List.getElem_of_mem h
      exact hI j hj (by omega) h
    simp [this]
end Go.Abs
