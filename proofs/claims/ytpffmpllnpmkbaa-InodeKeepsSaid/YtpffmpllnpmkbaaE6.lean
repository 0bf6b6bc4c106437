/- Proved here: what functions of the program compute, over the evaluator. No condition but those that each theorem states. -/
import Derived.Test.YtpffmpllnpmkbaaE5
namespace Go.Abs
open Go.Proofs
set_option maxRecDepth 100000
set_option linter.unusedSimpArgs false
set_option linter.unusedVariables false
attribute [local simp] spanV arrAtV

theorem field_eq (s : List UInt8) (i : Nat) (h : 2 * i + 2 ≤ s.length) (hs : s.length ≤ 1000000) :
    bodyW DC 42 [.str s, .int .i64 i] [] = some (.int .i64 (word (s[2 * i]'(by omega)) (s[2 * i + 1]'(by omega))), []) := by
  have hG : bodyW DC 56 [.str s, .int .i64 (2 * (i : Int)), .int .i64 2] [] = _ := GetR_eq s (2 * i) h hs
  have w : IntKind.i64.wrap (2 * (i : Int)) = 2 * i := wrap_id (by omega) (by omega)
  (refine gives_iff ?_; refine go_func Try.f42 rfl rfl (by simp [Try.f42]) ?_; dsimp only [codeL, Try.f42, scL, sopsL, guardL, dstAt, loopKey])
  (repeat (first
    | (apply is_ok; (case hw => simp [hG, w]); (case he => simp [hG, w]; exact is_rfl))
    | (apply op_no; (case hw => simp [hG, w]))
    | refine op_nil ?_ | refine next_normal ?_ | refine go_seq ?_ | refine go_region ?_ | refine go_skip ?_ | refine go_block ?_ | refine inb_normal ?_
    | (apply go_yes; (case hc => simp [hG, w])) | (apply go_no; (case hc => simp [hG, w]))
    | refine go_exit ?_ | refine next_exit ?_ | refine inb_here ?_ | refine inb_past (by decide) ?_ | refine go_ret ?_ | refine next_ret ?_ | refine inb_ret ?_))
  (apply ends_ok; (case h1 => simp; exact is_rfl); (case h2 => simp; exact is_rfl))
  simp

theorem word_range (x y : UInt8) : 0 ≤ word x y ∧ word x y ≤ 65535 := by
  have := x.toNat_lt; have := y.toNat_lt
  unfold word; omega

def wd (s : List UInt8) (i : Nat) : Int := word (s.getD (2 * i) 0) (s.getD (2 * i + 1) 0)
def wdL (s : List UInt8) : List Int := [wd s 3, wd s 4, wd s 5, wd s 6, wd s 7, wd s 8, wd s 9, wd s 10]
abbrev ino0 : V := .agg [.int .i64 0, .int .i64 0, .int .i64 0, .int .i64 0, .int .i64 0, .int .i64 0, .int .i64 0, .int .i64 0, .int .i64 0, .int .i64 0, .int .i64 0]
def okS (s : List UInt8) : Prop := s.length = 32 ∧ validI (wd s 0) (wd s 1) (wd s 2) (wdL s) ∧ bytesI (wd s 0) (wd s 1) (wd s 2) (wdL s) = s
instance (s : List UInt8) : Decidable (okS s) := by unfold okS; infer_instance
/-- What an encoding says. -/
def parseV (s : List UInt8) : V := if okS s then inoV (wd s 0) (wd s 1) (wd s 2) (wdL s) else ino0
def parseE (s : List UInt8) : Int := if okS s then 0 else 9

theorem in64_wd (s : List UInt8) : In64 (wd s 0 :: wd s 1 :: wd s 2 :: wdL s) := by
  intro x hx
  have : ∃ a b, x = word a b := by
    simp only [wdL, List.mem_cons, List.not_mem_nil, or_false] at hx
    rcases hx with rfl | rfl | rfl | rfl | rfl | rfl | rfl | rfl | rfl | rfl | rfl <;> exact ⟨_, _, rfl⟩
  obtain ⟨a, b, rfl⟩ := this
  have := word_range a b
  omega

set_option maxHeartbeats 4000000 in
theorem ParseR_eq (s : List UInt8) : bodyW DC 12 [.str s] [] = some (.tuple [parseV s, .int .i64 (parseE s)], []) := by
  by_cases hs : s.length = 32
  case neg =>
    have hs' : ¬ ((s.length : Int) = 32) := by omega
    have hk : ¬ okS s := fun h => hs h.1
    unfold parseV parseE
    rw [if_neg hk, if_neg hk]
    (refine gives_iff ?_; refine go_func Try.f12 rfl rfl (by simp [Try.f12]) ?_; dsimp only [codeL, Try.f12, scL, sopsL, guardL, dstAt, loopKey])
    (repeat (first
    | (apply is_ok; (case hw => simp [hs, hs']); (case he => simp [hs, hs']; exact is_rfl))
    | (apply op_no; (case hw => simp [hs, hs']))
    | refine op_nil ?_ | refine next_normal ?_ | refine go_seq ?_ | refine go_region ?_ | refine go_skip ?_ | refine go_block ?_ | refine inb_normal ?_
    | (apply go_yes; (case hc => simp [hs, hs'])) | (apply go_no; (case hc => simp [hs, hs']))
    | refine go_exit ?_ | refine next_exit ?_ | refine inb_here ?_ | refine inb_past (by decide) ?_ | refine go_ret ?_ | refine next_ret ?_ | refine inb_ret ?_))
    (apply ends_ok; (case h1 => simp; exact is_rfl); (case h2 => simp; exact is_rfl))
    simp
  have hs' : ((s.length : Int) = 32) := by omega
  obtain ⟨q, hq, hV⟩ : ∃ q : Bool, (q = true ↔ validI (wd s 0) (wd s 1) (wd s 2) (wdL s)) ∧ bodyW DC 43 [inoV (wd s 0) (wd s 1) (wd s 2) (wdL s)] [] = some (.bool q, []) := ⟨_, decide_eq_true_iff, ValidR_eq (wd s 0) (wd s 1) (wd s 2) (wdL s) rfl (fun x hx => in64_wd s x (by simp [hx]))⟩
  have hB := BytesR_eq (wd s 0) (wd s 1) (wd s 2) (wdL s) rfl (in64_wd s)
  have f0 : bodyW DC 42 [.str s, .int .i64 0] [] = some (.int .i64 (wd s 0), []) := by
    have h := field_eq s 0 (by omega) (by omega)
    have e : wd s 0 = word (s[2 * 0]'(by omega)) (s[2 * 0 + 1]'(by omega)) := by simp [wd, hs]
    rw [e]; exact h
  have f1 : bodyW DC 42 [.str s, .int .i64 1] [] = some (.int .i64 (wd s 1), []) := by
    have h := field_eq s 1 (by omega) (by omega)
    have e : wd s 1 = word (s[2 * 1]'(by omega)) (s[2 * 1 + 1]'(by omega)) := by simp [wd, hs]
    rw [e]; exact h
  have f2 : bodyW DC 42 [.str s, .int .i64 2] [] = some (.int .i64 (wd s 2), []) := by
    have h := field_eq s 2 (by omega) (by omega)
    have e : wd s 2 = word (s[2 * 2]'(by omega)) (s[2 * 2 + 1]'(by omega)) := by simp [wd, hs]
    rw [e]; exact h
  have f3 : bodyW DC 42 [.str s, .int .i64 3] [] = some (.int .i64 (wd s 3), []) := by
    have h := field_eq s 3 (by omega) (by omega)
    have e : wd s 3 = word (s[2 * 3]'(by omega)) (s[2 * 3 + 1]'(by omega)) := by simp [wd, hs]
    rw [e]; exact h
  have f4 : bodyW DC 42 [.str s, .int .i64 4] [] = some (.int .i64 (wd s 4), []) := by
    have h := field_eq s 4 (by omega) (by omega)
    have e : wd s 4 = word (s[2 * 4]'(by omega)) (s[2 * 4 + 1]'(by omega)) := by simp [wd, hs]
    rw [e]; exact h
  have f5 : bodyW DC 42 [.str s, .int .i64 5] [] = some (.int .i64 (wd s 5), []) := by
    have h := field_eq s 5 (by omega) (by omega)
    have e : wd s 5 = word (s[2 * 5]'(by omega)) (s[2 * 5 + 1]'(by omega)) := by simp [wd, hs]
    rw [e]; exact h
  have f6 : bodyW DC 42 [.str s, .int .i64 6] [] = some (.int .i64 (wd s 6), []) := by
    have h := field_eq s 6 (by omega) (by omega)
    have e : wd s 6 = word (s[2 * 6]'(by omega)) (s[2 * 6 + 1]'(by omega)) := by simp [wd, hs]
    rw [e]; exact h
  have f7 : bodyW DC 42 [.str s, .int .i64 7] [] = some (.int .i64 (wd s 7), []) := by
    have h := field_eq s 7 (by omega) (by omega)
    have e : wd s 7 = word (s[2 * 7]'(by omega)) (s[2 * 7 + 1]'(by omega)) := by simp [wd, hs]
    rw [e]; exact h
  have f8 : bodyW DC 42 [.str s, .int .i64 8] [] = some (.int .i64 (wd s 8), []) := by
    have h := field_eq s 8 (by omega) (by omega)
    have e : wd s 8 = word (s[2 * 8]'(by omega)) (s[2 * 8 + 1]'(by omega)) := by simp [wd, hs]
    rw [e]; exact h
  have f9 : bodyW DC 42 [.str s, .int .i64 9] [] = some (.int .i64 (wd s 9), []) := by
    have h := field_eq s 9 (by omega) (by omega)
    have e : wd s 9 = word (s[2 * 9]'(by omega)) (s[2 * 9 + 1]'(by omega)) := by simp [wd, hs]
    rw [e]; exact h
  have f10 : bodyW DC 42 [.str s, .int .i64 10] [] = some (.int .i64 (wd s 10), []) := by
    have h := field_eq s 10 (by omega) (by omega)
    have e : wd s 10 = word (s[2 * 10]'(by omega)) (s[2 * 10 + 1]'(by omega)) := by simp [wd, hs]
    rw [e]; exact h
  have hk : okS s ↔ (validI (wd s 0) (wd s 1) (wd s 2) (wdL s) ∧ bytesI (wd s 0) (wd s 1) (wd s 2) (wdL s) = s) := ⟨fun h => h.2, fun h => ⟨hs, h⟩⟩
  unfold parseV parseE
  simp only [inoV, ints, wdL, List.map_cons, List.map_nil] at hq hV hB hk ⊢
  generalize wd s 0 = w0 at *
  generalize wd s 1 = w1 at *
  generalize wd s 2 = w2 at *
  generalize wd s 3 = w3 at *
  generalize wd s 4 = w4 at *
  generalize wd s 5 = w5 at *
  generalize wd s 6 = w6 at *
  generalize wd s 7 = w7 at *
  generalize wd s 8 = w8 at *
  generalize wd s 9 = w9 at *
  generalize wd s 10 = w10 at *
  by_cases hv : validI w0 w1 w2 [w3, w4, w5, w6, w7, w8, w9, w10]
  case neg =>
    have ho : ¬ okS s := fun h => hv (hk.1 h).1
    rw [if_neg ho, if_neg ho]
    have hq0 : q = false := by cases q with | false => rfl | true => exact absurd (hq.1 rfl) hv
    subst hq0
    (refine gives_iff ?_; refine go_func Try.f12 rfl rfl (by simp [Try.f12]) ?_; dsimp only [codeL, Try.f12, scL, sopsL, guardL, dstAt, loopKey])
    (repeat (first
    | (apply is_ok; (case hw => simp [f0, f1, f2, f3, f4, f5, f6, f7, f8, f9, f10, hs, hs', hV, hB]); (case he => simp [f0, f1, f2, f3, f4, f5, f6, f7, f8, f9, f10, hs, hs', hV, hB]; exact is_rfl))
    | (apply op_no; (case hw => simp [f0, f1, f2, f3, f4, f5, f6, f7, f8, f9, f10, hs, hs', hV, hB]))
    | refine op_nil ?_ | refine next_normal ?_ | refine go_seq ?_ | refine go_region ?_ | refine go_skip ?_ | refine go_block ?_ | refine inb_normal ?_
    | (apply go_yes; (case hc => simp [f0, f1, f2, f3, f4, f5, f6, f7, f8, f9, f10, hs, hs', hV, hB])) | (apply go_no; (case hc => simp [f0, f1, f2, f3, f4, f5, f6, f7, f8, f9, f10, hs, hs', hV, hB]))
    | refine go_exit ?_ | refine next_exit ?_ | refine inb_here ?_ | refine inb_past (by decide) ?_ | refine go_ret ?_ | refine next_ret ?_ | refine inb_ret ?_
    | (apply go_unroll; (case hh => simp [f0, f1, f2, f3, f4, f5, f6, f7, f8, f9, f10, hs, hs', hV, hB]; exact is_rfl))))
    (apply ends_ok; (case h1 => simp; exact is_rfl); (case h2 => simp; exact is_rfl))
    simp
  have hq1 : q = true := hq.2 hv
  subst hq1
  by_cases hb : bytesI w0 w1 w2 [w3, w4, w5, w6, w7, w8, w9, w10] = s
  case neg =>
    have ho : ¬ okS s := fun h => hb (hk.1 h).2
    rw [if_neg ho, if_neg ho]
    (refine gives_iff ?_; refine go_func Try.f12 rfl rfl (by simp [Try.f12]) ?_; dsimp only [codeL, Try.f12, scL, sopsL, guardL, dstAt, loopKey])
    (repeat (first
    | (apply is_ok; (case hw => simp [f0, f1, f2, f3, f4, f5, f6, f7, f8, f9, f10, hs, hs', hV, hB, hb]); (case he => simp [f0, f1, f2, f3, f4, f5, f6, f7, f8, f9, f10, hs, hs', hV, hB, hb]; exact is_rfl))
    | (apply op_no; (case hw => simp [f0, f1, f2, f3, f4, f5, f6, f7, f8, f9, f10, hs, hs', hV, hB, hb]))
    | refine op_nil ?_ | refine next_normal ?_ | refine go_seq ?_ | refine go_region ?_ | refine go_skip ?_ | refine go_block ?_ | refine inb_normal ?_
    | (apply go_yes; (case hc => simp [f0, f1, f2, f3, f4, f5, f6, f7, f8, f9, f10, hs, hs', hV, hB, hb])) | (apply go_no; (case hc => simp [f0, f1, f2, f3, f4, f5, f6, f7, f8, f9, f10, hs, hs', hV, hB, hb]))
    | refine go_exit ?_ | refine next_exit ?_ | refine inb_here ?_ | refine inb_past (by decide) ?_ | refine go_ret ?_ | refine next_ret ?_ | refine inb_ret ?_
    | (apply go_unroll; (case hh => simp [f0, f1, f2, f3, f4, f5, f6, f7, f8, f9, f10, hs, hs', hV, hB, hb]; exact is_rfl))))
    (apply ends_ok; (case h1 => simp; exact is_rfl); (case h2 => simp; exact is_rfl))
    simp
  have ho : okS s := hk.2 ⟨hv, hb⟩
  rw [if_pos ho, if_pos ho]
  (refine gives_iff ?_; refine go_func Try.f12 rfl rfl (by simp [Try.f12]) ?_; dsimp only [codeL, Try.f12, scL, sopsL, guardL, dstAt, loopKey])
  (repeat (first
    | (apply is_ok; (case hw => simp [f0, f1, f2, f3, f4, f5, f6, f7, f8, f9, f10, hs, hs', hV, hB, hb]); (case he => simp [f0, f1, f2, f3, f4, f5, f6, f7, f8, f9, f10, hs, hs', hV, hB, hb]; exact is_rfl))
    | (apply op_no; (case hw => simp [f0, f1, f2, f3, f4, f5, f6, f7, f8, f9, f10, hs, hs', hV, hB, hb]))
    | refine op_nil ?_ | refine next_normal ?_ | refine go_seq ?_ | refine go_region ?_ | refine go_skip ?_ | refine go_block ?_ | refine inb_normal ?_
    | (apply go_yes; (case hc => simp [f0, f1, f2, f3, f4, f5, f6, f7, f8, f9, f10, hs, hs', hV, hB, hb])) | (apply go_no; (case hc => simp [f0, f1, f2, f3, f4, f5, f6, f7, f8, f9, f10, hs, hs', hV, hB, hb]))
    | refine go_exit ?_ | refine next_exit ?_ | refine inb_here ?_ | refine inb_past (by decide) ?_ | refine go_ret ?_ | refine next_ret ?_ | refine inb_ret ?_
    | (apply go_unroll; (case hh => simp [f0, f1, f2, f3, f4, f5, f6, f7, f8, f9, f10, hs, hs', hV, hB, hb]; exact is_rfl))))
  (apply ends_ok; (case h1 => simp; exact is_rfl); (case h2 => simp; exact is_rfl))
  simp

set_option maxHeartbeats 4000000 in
theorem Parse_eq (s : List UInt8) : bodyW DC 11 [.str s] [] = some (.tuple [parseV s, .int .i64 (parseE s)], []) := by
  by_cases hs : s.length = 32
  case neg =>
    have hs' : ¬ ((s.length : Int) = 32) := by omega
    have hk : ¬ okS s := fun h => hs h.1
    unfold parseV parseE
    rw [if_neg hk, if_neg hk]
    (refine gives_iff ?_; refine go_func Try.f11 rfl rfl (by simp [Try.f11]) ?_; dsimp only [codeL, Try.f11, scL, sopsL, guardL, dstAt, loopKey])
    (repeat (first
    | (apply is_ok; (case hw => simp [hs, hs']); (case he => simp [hs, hs']; exact is_rfl))
    | (apply op_no; (case hw => simp [hs, hs']))
    | refine op_nil ?_ | refine next_normal ?_ | refine go_seq ?_ | refine go_region ?_ | refine go_skip ?_ | refine go_block ?_ | refine inb_normal ?_
    | (apply go_yes; (case hc => simp [hs, hs'])) | (apply go_no; (case hc => simp [hs, hs']))
    | refine go_exit ?_ | refine next_exit ?_ | refine inb_here ?_ | refine inb_past (by decide) ?_ | refine go_ret ?_ | refine next_ret ?_ | refine inb_ret ?_))
    (apply ends_ok; (case h1 => simp; exact is_rfl); (case h2 => simp; exact is_rfl))
    simp
  have hs' : ((s.length : Int) = 32) := by omega
  obtain ⟨q, hq, hV⟩ : ∃ q : Bool, (q = true ↔ validI (wd s 0) (wd s 1) (wd s 2) (wdL s)) ∧ bodyW DC 41 [inoV (wd s 0) (wd s 1) (wd s 2) (wdL s)] [] = some (.bool q, []) := ⟨_, decide_eq_true_iff, Valid_eq (wd s 0) (wd s 1) (wd s 2) (wdL s) rfl (fun x hx => in64_wd s x (by simp [hx]))⟩
  have hB := Bytes_eq (wd s 0) (wd s 1) (wd s 2) (wdL s) rfl (in64_wd s)
  have hG : ∃ r, bodyW DC 40 [.str s] [] = some (.tuple [.own 0 16 0 16, .int .i64 0], [.dat true 1 (ints (wd s 0 :: wd s 1 :: wd s 2 :: (wdL s ++ r)))]) ∧ r.length = 5 := by
    match s, hs with
    | [b0, b1, b2, b3, b4, b5, b6, b7, b8, b9, b10, b11, b12, b13, b14, b15, b16, b17, b18, b19, b20, b21, b22, b23, b24, b25, b26, b27, b28, b29, b30, b31], _ => exact ⟨[word b22 b23, word b24 b25, word b26 b27, word b28 b29, word b30 b31], GetWords_eq b0 b1 b2 b3 b4 b5 b6 b7 b8 b9 b10 b11 b12 b13 b14 b15 b16 b17 b18 b19 b20 b21 b22 b23 b24 b25 b26 b27 b28 b29 b30 b31, rfl⟩
  obtain ⟨r, hG, hr⟩ := hG
  obtain ⟨r0, r1, r2, r3, r4, rfl⟩ : ∃ a b c d e, r = [a, b, c, d, e] := by
    match r, hr with
    | [a, b, c, d, e], _ => exact ⟨a, b, c, d, e, rfl⟩
  have hk : okS s ↔ (validI (wd s 0) (wd s 1) (wd s 2) (wdL s) ∧ bytesI (wd s 0) (wd s 1) (wd s 2) (wdL s) = s) := ⟨fun h => h.2, fun h => ⟨hs, h⟩⟩
  unfold parseV parseE
  simp only [inoV, ints, wdL, List.cons_append, List.nil_append, List.map_cons, List.map_nil] at hq hV hB hk hG ⊢
  generalize wd s 0 = w0 at *
  generalize wd s 1 = w1 at *
  generalize wd s 2 = w2 at *
  generalize wd s 3 = w3 at *
  generalize wd s 4 = w4 at *
  generalize wd s 5 = w5 at *
  generalize wd s 6 = w6 at *
  generalize wd s 7 = w7 at *
  generalize wd s 8 = w8 at *
  generalize wd s 9 = w9 at *
  generalize wd s 10 = w10 at *
  by_cases hv : validI w0 w1 w2 [w3, w4, w5, w6, w7, w8, w9, w10]
  case neg =>
    have ho : ¬ okS s := fun h => hv (hk.1 h).1
    rw [if_neg ho, if_neg ho]
    have hq0 : q = false := by cases q with | false => rfl | true => exact absurd (hq.1 rfl) hv
    subst hq0
    (refine gives_iff ?_; refine go_func Try.f11 rfl rfl (by simp [Try.f11]) ?_; dsimp only [codeL, Try.f11, scL, sopsL, guardL, dstAt, loopKey])
    (repeat (first
    | (apply is_ok; (case hw => simp [hG, hs, hs', hV, hB]); (case he => simp [hG, hs, hs', hV, hB]; exact is_rfl))
    | (apply op_no; (case hw => simp [hG, hs, hs', hV, hB]))
    | refine op_nil ?_ | refine next_normal ?_ | refine go_seq ?_ | refine go_region ?_ | refine go_skip ?_ | refine go_block ?_ | refine inb_normal ?_
    | (apply go_yes; (case hc => simp [hG, hs, hs', hV, hB])) | (apply go_no; (case hc => simp [hG, hs, hs', hV, hB]))
    | refine go_exit ?_ | refine next_exit ?_ | refine inb_here ?_ | refine inb_past (by decide) ?_ | refine go_ret ?_ | refine next_ret ?_ | refine inb_ret ?_
    | (apply go_unroll; (case hh => simp [hG, hs, hs', hV, hB]; exact is_rfl))))
    (apply ends_ok; (case h1 => simp; exact is_rfl); (case h2 => simp; exact is_rfl))
    simp
  have hq1 : q = true := hq.2 hv
  subst hq1
  by_cases hb : bytesI w0 w1 w2 [w3, w4, w5, w6, w7, w8, w9, w10] = s
  case neg =>
    have ho : ¬ okS s := fun h => hb (hk.1 h).2
    rw [if_neg ho, if_neg ho]
    (refine gives_iff ?_; refine go_func Try.f11 rfl rfl (by simp [Try.f11]) ?_; dsimp only [codeL, Try.f11, scL, sopsL, guardL, dstAt, loopKey])
    (repeat (first
    | (apply is_ok; (case hw => simp [hG, hs, hs', hV, hB, hb]); (case he => simp [hG, hs, hs', hV, hB, hb]; exact is_rfl))
    | (apply op_no; (case hw => simp [hG, hs, hs', hV, hB, hb]))
    | refine op_nil ?_ | refine next_normal ?_ | refine go_seq ?_ | refine go_region ?_ | refine go_skip ?_ | refine go_block ?_ | refine inb_normal ?_
    | (apply go_yes; (case hc => simp [hG, hs, hs', hV, hB, hb])) | (apply go_no; (case hc => simp [hG, hs, hs', hV, hB, hb]))
    | refine go_exit ?_ | refine next_exit ?_ | refine inb_here ?_ | refine inb_past (by decide) ?_ | refine go_ret ?_ | refine next_ret ?_ | refine inb_ret ?_
    | (apply go_unroll; (case hh => simp [hG, hs, hs', hV, hB, hb]; exact is_rfl))))
    (apply ends_ok; (case h1 => simp; exact is_rfl); (case h2 => simp; exact is_rfl))
    simp
  have ho : okS s := hk.2 ⟨hv, hb⟩
  rw [if_pos ho, if_pos ho]
  (refine gives_iff ?_; refine go_func Try.f11 rfl rfl (by simp [Try.f11]) ?_; dsimp only [codeL, Try.f11, scL, sopsL, guardL, dstAt, loopKey])
  (repeat (first
    | (apply is_ok; (case hw => simp [hG, hs, hs', hV, hB, hb]); (case he => simp [hG, hs, hs', hV, hB, hb]; exact is_rfl))
    | (apply op_no; (case hw => simp [hG, hs, hs', hV, hB, hb]))
    | refine op_nil ?_ | refine next_normal ?_ | refine go_seq ?_ | refine go_region ?_ | refine go_skip ?_ | refine go_block ?_ | refine inb_normal ?_
    | (apply go_yes; (case hc => simp [hG, hs, hs', hV, hB, hb])) | (apply go_no; (case hc => simp [hG, hs, hs', hV, hB, hb]))
    | refine go_exit ?_ | refine next_exit ?_ | refine inb_here ?_ | refine inb_past (by decide) ?_ | refine go_ret ?_ | refine next_ret ?_ | refine inb_ret ?_
    | (apply go_unroll; (case hh => simp [hG, hs, hs', hV, hB, hb]; exact is_rfl))))
  (apply ends_ok; (case h1 => simp; exact is_rfl); (case h2 => simp; exact is_rfl))
  simp
end Go.Abs
