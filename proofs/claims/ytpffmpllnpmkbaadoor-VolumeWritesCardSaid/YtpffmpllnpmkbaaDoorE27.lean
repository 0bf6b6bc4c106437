/- Proved here: what functions of the program compute, over the evaluator. No condition but those that each theorem states. -/
import Derived.Test.YtpffmpllnpmkbaaDoorE26
namespace Go.Abs
open Go.Proofs
set_option maxRecDepth 100000
set_option linter.unusedSimpArgs false
set_option linter.unusedVariables false

theorem Get_wd (s : List UInt8) (j : Nat) (a : Int) (ha : a = 2 * (j : Int)) (h : 2 * j + 2 ≤ s.length) (hs : s.length ≤ 1000000) :
    bodyW DC 40 [.str s, .int .i64 a, .int .i64 2] [] = some (.tuple [.int .i64 (wd s j), .int .i64 (a + 2), .int .i64 0], []) := by
  have := Get_eq s (2 * j) h hs
  rw [show ((2 * j : Nat) : Int) = a by omega] at this
  rw [this]
  unfold wd
  rw [getD_at (by omega), getD_at (by omega)]
theorem GetR_wd (s : List UInt8) (j : Nat) (a : Int) (ha : a = 2 * (j : Int)) (h : 2 * j + 2 ≤ s.length) (hs : s.length ≤ 1000000) :
    bodyW DC 45 [.str s, .int .i64 a, .int .i64 2] [] = some (.tuple [.int .i64 (wd s j), .int .i64 (a + 2), .int .i64 0], []) := by
  have := GetR_eq s (2 * j) h hs
  rw [show ((2 * j : Nat) : Int) = a by omega] at this
  rw [this]
  unfold wd
  rw [getD_at (by omega), getD_at (by omega)]

def logK (s : List UInt8) (n : Nat) : List Int := (List.range n).map fun i => wd s (i + 1)
theorem logK_succ (s : List UInt8) (n : Nat) : logK s (n + 1) = logK s n ++ [wd s (n + 1)] := by simp [logK, List.range_succ]
theorem logK_length (s : List UInt8) (n : Nat) : (logK s n).length = n := by simp [logK]
def lastK (s : List UInt8) (i : Nat) : Int := if i = 0 then -1 else wd s i
/-- Are the first n sectors of a log header right? -/
def okK (e : Int) (s : List UInt8) : Nat → Bool
  | 0 => true
  | i + 1 => okK e s i && decide (lastK s i < wd s (i + 1) ∧ 18 ≤ wd s (i + 1) ∧ wd s (i + 1) < e)
theorem okK_le {e : Int} {s : List UInt8} : ∀ {n i : Nat}, okK e s n = true → i ≤ n → okK e s i = true
  | 0, i, h, hi => by obtain rfl : i = 0 := by omega
                      exact h
  | n + 1, i, h, hi => by
    by_cases h1 : i = n + 1
    · subst h1; exact h
    · rw [okK, Bool.and_eq_true] at h
      exact okK_le h.1 (by omega)
theorem okK_no {e : Int} {s : List UInt8} {n i : Nat} (h : okK e s (i + 1) = false) (hi : i < n) : okK e s n = false := by
  cases hn : okK e s n with
  | false => rfl
  | true => rw [okK_le hn (by omega)] at h; cases h
def zeroFrom (s : List UInt8) (k : Nat) : Prop := ∀ b ∈ s.drop k, b = 0
instance (s : List UInt8) (k : Nat) : Decidable (zeroFrom s k) := by unfold zeroFrom; infer_instance
/-- The sectors of a log header, and whether it is valid. -/
def logS (e : Int) (s : List UInt8) : List Int × Bool :=
  if 16 < wd s 0 then ([], false) else if okK e s (wd s 0).toNat then (logK s (wd s 0).toNat, decide (zeroFrom s (2 * (wd s 0).toNat + 2))) else ([], false)

theorem wd_nat (s : List UInt8) (i : Nat) : ∃ n : Nat, wd s i = n ∧ n ≤ 65535 := by
  have h := word_range (s.getD (2 * i) 0) (s.getD (2 * i + 1) 0)
  exact ⟨(wd s i).toNat, by unfold wd at *; omega, by unfold wd at *; omega⟩

theorem logged_eq (S : List (List UInt8)) (B : List Int) (hB : B.length ≤ maxLen) (hv : VolP S B) (s : List UInt8) (hs : s.length = 128) :
    bodyW DC 22 [drv S B, .str s] [] = some (.tuple [.own 0 (logS (S.length - swapW S) s).1.length 0 (logS (S.length - swapW S) s).1.length, .bool (logS (S.length - swapW S) s).2], [.dat true 1 (ints (logS (S.length - swapW S) s).1)]) := by
  have hO := ofFiles_eq S B hB hv
  generalize (S.length : Int) - swapW S = e at hO ⊢
  have g0 := Get_wd s 0 0 rfl (by omega) (by omega)
  have gi := fun i (hi : i < 16) => Get_wd s (i + 1) (2 * ((i : Int) + 1)) (by omega) (by omega) (by omega)
  obtain ⟨n, hn, hn2⟩ := wd_nat s 0
  unfold logS
  rw [hn] at g0 ⊢
  rw [show ((n : Int)).toNat = n from rfl]
  by_cases h16 : (16 : Int) < n
  · rw [if_pos h16]
    (refine gives_iff ?_; refine go_func Tryd.f22 rfl rfl (by simp [Tryd.f22]) ?_; dsimp only [codeL, Tryd.f22, scL, sopsL, guardL, dstAt, loopKey])
    (repeat (first
    | (apply is_ok; (case hw => simp [g0, h16]); (case he => simp [g0, h16]; exact is_rfl))
    | (apply op_no; (case hw => simp [g0, h16]))
    | refine op_nil ?_ | refine next_normal ?_ | refine go_seq ?_ | refine go_region ?_ | refine go_skip ?_ | refine go_block ?_ | refine inb_normal ?_
    | (apply go_yes; (case hc => simp [g0, h16])) | (apply go_no; (case hc => simp [g0, h16]))
    | refine go_exit ?_ | refine next_exit ?_ | refine inb_here ?_ | refine inb_past (by decide) ?_ | refine go_ret ?_ | refine next_ret ?_ | refine inb_ret ?_))
    (apply ends_ok; (case h1 => simp; exact is_rfl); (case h2 => simp; exact is_rfl))
    simp
  rw [if_neg h16]
  have hT := Trim_eq (s.drop (2 * n + 2)) (by rw [List.length_drop]; omega)
  generalize hR : (if okK e s n then (logK s n, decide (zeroFrom s (2 * n + 2))) else ([], false)) = R
  (refine gives_iff ?_; refine go_func Tryd.f22 rfl rfl (by simp [Tryd.f22]) ?_; dsimp only [codeL, Tryd.f22, scL, sopsL, guardL, dstAt, loopKey])
  (repeat (first
    | (apply is_ok; (case hw => simp [g0, h16]); (case he => simp [g0, h16]; exact is_rfl))
    | (apply op_no; (case hw => simp [g0, h16]))
    | refine op_nil ?_ | refine next_normal ?_ | refine go_seq ?_ | refine go_region ?_ | refine go_skip ?_ | refine go_block ?_ | refine inb_normal ?_
    | (apply go_yes; (case hc => simp [g0, h16])) | (apply go_no; (case hc => simp [g0, h16]))
    | refine go_exit ?_ | refine next_exit ?_ | refine inb_here ?_ | refine inb_past (by decide) ?_ | refine go_ret ?_ | refine next_ret ?_ | refine inb_ret ?_))
  refine go_count n (fun i => [(1, .str s), (2, .ptr 0 1 0 0), (7, .int .i64 (2 * ((i : Int) + 1))), (9, .own 1 i 0 i), (10, .int .i64 (lastK s i)), (22, .int .i64 n), (23, .int .i64 i)])
    (fun i => [.box (drv S B), .dat true 1 (ints (logK s i))]) (fun i => okK e s i = true) (by simp [logK, lastK]) rfl fun i hi hI => ?_
  have hll := logK_length s i
  by_cases hlt : i < n
  · have hg := gi i (by omega)
    have hw : IntKind.i64.wrap ((i : Int) + 1) = (i : Int) + 1 := wrap_id (by omega) (by omega)
    have hq : 2 * ((i : Int) + 1) + 2 = 2 * ((i : Int) + 1 + 1) := by omega
    have hls := logK_succ s i
    have hlk : lastK s (i + 1) = wd s (i + 1) := by simp [lastK]
    have hok : okK e s (i + 1) = decide (lastK s i < wd s (i + 1) ∧ 18 ≤ wd s (i + 1) ∧ wd s (i + 1) < e) := by rw [okK, hI]; simp
    have hno := @okK_no e s n i
    have hOk := hO (wd s (i + 1))
    have r1 : (i + 1) * 8 ≤ room := by unfold room; omega
    have r2 : i + 1 ≤ room := by unfold room; omega
    rw [hls, hlk]
    generalize lastK s i = k at hok
    generalize wd s (i + 1) = x at hg hok hOk
    generalize logK s i = K at hll
    by_cases h1 : k < x
    · have h1' : ¬ x ≤ k := by omega
      by_cases h2 : 18 ≤ x ∧ x < e
      · rw [decide_eq_true h2] at hOk
        (repeat (first
    | (apply is_ok; (case hw => simp [hlt, hg, h1', hOk, hll, r1, r2]); (case he => simp [hlt, hg, h1', hOk, hll, r1, r2]; exact is_rfl))
    | (apply op_no; (case hw => simp [hlt, hg, h1', hOk, hll, r1, r2]))
    | refine op_nil ?_ | refine next_normal ?_ | refine go_seq ?_ | refine go_region ?_ | refine go_skip ?_ | refine go_block ?_ | refine inb_normal ?_
    | (apply go_yes; (case hc => simp [hlt, hg, h1', hOk, hll, r1, r2])) | (apply go_no; (case hc => simp [hlt, hg, h1', hOk, hll, r1, r2]))
    | refine go_exit ?_ | refine next_exit ?_ | refine inb_here ?_ | refine inb_past (by decide) ?_ | refine go_ret ?_ | refine next_ret ?_ | refine inb_ret ?_))
        exact ⟨hlt, by simp [hw, hq], by rw [hok]; exact decide_eq_true ⟨h1, h2⟩⟩
      · rw [decide_eq_false h2] at hOk
        rw [hno (by rw [hok]; exact decide_eq_false fun h => h2 h.2) hlt] at hR
        subst hR
        (repeat (first
    | (apply is_ok; (case hw => simp [hlt, hg, h1', hOk, hll]); (case he => simp [hlt, hg, h1', hOk, hll]; exact is_rfl))
    | (apply op_no; (case hw => simp [hlt, hg, h1', hOk, hll]))
    | refine op_nil ?_ | refine next_normal ?_ | refine go_seq ?_ | refine go_region ?_ | refine go_skip ?_ | refine go_block ?_ | refine inb_normal ?_
    | (apply go_yes; (case hc => simp [hlt, hg, h1', hOk, hll])) | (apply go_no; (case hc => simp [hlt, hg, h1', hOk, hll]))
    | refine go_exit ?_ | refine next_exit ?_ | refine inb_here ?_ | refine inb_past (by decide) ?_ | refine go_ret ?_ | refine next_ret ?_ | refine inb_ret ?_))
        (apply ends_ok; (case h1 => simp; exact is_rfl); (case h2 => simp; exact is_rfl))
        simp
    · have h1' : x ≤ k := by omega
      rw [hno (by rw [hok]; exact decide_eq_false fun h => h1 h.1) hlt] at hR
      subst hR
      (repeat (first
    | (apply is_ok; (case hw => simp [hlt, hg, h1', hll]); (case he => simp [hlt, hg, h1', hll]; exact is_rfl))
    | (apply op_no; (case hw => simp [hlt, hg, h1', hll]))
    | refine op_nil ?_ | refine next_normal ?_ | refine go_seq ?_ | refine go_region ?_ | refine go_skip ?_ | refine go_block ?_ | refine inb_normal ?_
    | (apply go_yes; (case hc => simp [hlt, hg, h1', hll])) | (apply go_no; (case hc => simp [hlt, hg, h1', hll]))
    | refine go_exit ?_ | refine next_exit ?_ | refine inb_here ?_ | refine inb_past (by decide) ?_ | refine go_ret ?_ | refine next_ret ?_ | refine inb_ret ?_))
      (apply ends_ok; (case h1 => simp; exact is_rfl); (case h2 => simp; exact is_rfl))
      simp
  · have hin : i = n := by omega
    subst hin
    rw [hI] at hR
    simp only [if_true] at hR
    subst hR
    have a1 : (0 : Int) ≤ 2 * ((i : Int) + 1) := by omega
    have a2 : (2 * ((i : Int) + 1)).toNat = 2 * i + 2 := by omega
    have a3 : 2 * i + 2 ≤ s.length := by omega
    have hz : (trimL (trimR (s.drop (2 * i + 2))) == []) = decide (zeroFrom s (2 * i + 2)) := by
      rw [Bool.eq_iff_iff, decide_eq_true_iff, beq_iff_eq, trim_nil]
      rfl
    have hz2 : decide (trimL (trimR (s.drop (2 * i + 2))) = []) = decide (zeroFrom s (2 * i + 2)) := by
      rw [← hz, Bool.eq_iff_iff, decide_eq_true_iff, beq_iff_eq]
    rw [← hz]
    generalize trimL (trimR (s.drop (2 * i + 2))) = t at hT
    (repeat (first
    | (apply is_ok; (case hw => simp [hlt, a1, a2, a3, hT]); (case he => simp [hlt, a1, a2, a3, hT]; exact is_rfl))
    | (apply op_no; (case hw => simp [hlt, a1, a2, a3, hT]))
    | refine op_nil ?_ | refine next_normal ?_ | refine go_seq ?_ | refine go_region ?_ | refine go_skip ?_ | refine go_block ?_ | refine inb_normal ?_
    | (apply go_yes; (case hc => simp [hlt, a1, a2, a3, hT])) | (apply go_no; (case hc => simp [hlt, a1, a2, a3, hT]))
    | refine go_exit ?_ | refine next_exit ?_ | refine inb_here ?_ | refine inb_past (by decide) ?_ | refine go_ret ?_ | refine next_ret ?_ | refine inb_ret ?_))
    (apply ends_ok; (case h1 => simp; exact is_rfl); (case h2 => simp; exact is_rfl))
    simp [hll]

theorem put2_wd {s : List UInt8} {j : Nat} (h : 2 * j + 2 ≤ s.length) : put2 (wd s j) = [s[2 * j]'(by omega), s[2 * j + 1]'(by omega)] := by
  unfold wd put2 word
  rw [getD_at (by omega), getD_at (by omega)]
  have h1 := (s[2 * j]'(by omega)).toNat_lt
  have h2 := (s[2 * j + 1]'(by omega)).toNat_lt
  rw [show ((((s[2 * j]'(by omega)).toNat : Int) + 256 * (s[2 * j + 1]'(by omega)).toNat)).toNat = (s[2 * j]'(by omega)).toNat + 256 * (s[2 * j + 1]'(by omega)).toNat by omega]
  rw [show ((s[2 * j]'(by omega)).toNat + 256 * (s[2 * j + 1]'(by omega)).toNat) % 256 = (s[2 * j]'(by omega)).toNat by omega]
  rw [show ((s[2 * j]'(by omega)).toNat + 256 * (s[2 * j + 1]'(by omega)).toNat) / 256 % 256 = (s[2 * j + 1]'(by omega)).toNat by omega]
  simp
def hdrK (s : List UInt8) (n : Nat) : List UInt8 := put2 (wd s 0) ++ (logK s n).flatMap put2
theorem hdrK_succ (s : List UInt8) (n : Nat) : hdrK s (n + 1) = hdrK s n ++ put2 (wd s (n + 1)) := by unfold hdrK; rw [logK_succ]; simp
theorem hdrK_take {s : List UInt8} : ∀ {n : Nat}, 2 * n + 2 ≤ s.length → hdrK s n = s.take (2 * n + 2)
  | 0, h => by
    unfold hdrK
    rw [put2_wd (by omega)]
    match s, h with
    | a :: b :: s, h => simp [logK]
  | n + 1, h => by
    have e1 : s.take (2 * n + 2 + 1 + 1) = s.take (2 * n + 2 + 1) ++ [s[2 * n + 2 + 1]'(by omega)] := List.take_succ_eq_append_getElem (by omega)
    have e2 : s.take (2 * n + 2 + 1) = s.take (2 * n + 2) ++ [s[2 * n + 2]'(by omega)] := List.take_succ_eq_append_getElem (by omega)
    rw [hdrK_succ, hdrK_take (by omega), put2_wd (by omega), show 2 * (n + 1) + 2 = (2 * n + 2 + 1) + 1 by omega, e1, e2]
    simp only [List.append_assoc, List.cons_append, List.nil_append, show 2 * (n + 1) = 2 * n + 2 by omega]
theorem hdrK_pad {s : List UInt8} {n : Nat} (hs : s.length = 128) (h : n ≤ 16) : s = padS (hdrK s n) ↔ zeroFrom s (2 * n + 2) := by
  rw [hdrK_take (by omega)]
  unfold padS zeroFrom
  rw [show (s.take (2 * n + 2)).length = 2 * n + 2 by rw [List.length_take]; omega]
  have hl : (s.drop (2 * n + 2)).length = 128 - (2 * n + 2) := by rw [List.length_drop, hs]
  constructor
  · intro h b hb
    have h2 := List.take_append_drop (2 * n + 2) s
    have h3 : s.drop (2 * n + 2) = List.replicate (128 - (2 * n + 2)) 0 := by
      exact List.append_cancel_left (h2.trans h)
    rw [h3] at hb
    exact List.eq_of_mem_replicate hb
  · intro h
    have h3 : s.drop (2 * n + 2) = List.replicate (128 - (2 * n + 2)) 0 := List.eq_replicate_iff.2 ⟨hl, h⟩
    rw [← h3, List.take_append_drop]

theorem sectors37_eq (e : Int) (s : List UInt8) (hs : s.length = 128) :
    bodyW DC 26 [.str s, .int .i64 e] [] = some (.tuple [.own 0 (logS e s).1.length 0 (logS e s).1.length, .bool (logS e s).2], [.dat true 1 (ints (logS e s).1)]) := by
  have g0 := GetR_wd s 0 0 rfl (by omega) (by omega)
  have gi := fun i (hi : i < 16) => GetR_wd s (i + 1) (2 + 2 * (i : Int)) (by omega) (by omega) (by omega)
  obtain ⟨n, hn, hn2⟩ := wd_nat s 0
  have hp := PutR_eq (n : Int) (by omega)
  unfold logS
  rw [hn] at g0 ⊢
  rw [show ((n : Int)).toNat = n from rfl]
  by_cases h16 : (16 : Int) < n
  · rw [if_pos h16]
    (refine gives_iff ?_; refine go_func Tryd.f26 rfl rfl (by simp [Tryd.f26]) ?_; dsimp only [codeL, Tryd.f26, scL, sopsL, guardL, dstAt, loopKey])
    (repeat (first
    | (apply is_ok; (case hw => simp [g0, h16]); (case he => simp [g0, h16]; exact is_rfl))
    | (apply op_no; (case hw => simp [g0, h16]))
    | refine op_nil ?_ | refine next_normal ?_ | refine go_seq ?_ | refine go_region ?_ | refine go_skip ?_ | refine go_block ?_ | refine inb_normal ?_
    | (apply go_yes; (case hc => simp [g0, h16])) | (apply go_no; (case hc => simp [g0, h16]))
    | refine go_exit ?_ | refine next_exit ?_ | refine inb_here ?_ | refine inb_past (by decide) ?_ | refine go_ret ?_ | refine next_ret ?_ | refine inb_ret ?_))
    (apply ends_ok; (case h1 => simp; exact is_rfl); (case h2 => simp; exact is_rfl))
    simp
  rw [if_neg h16]
  generalize hR : (if okK e s n then (logK s n, decide (zeroFrom s (2 * n + 2))) else ([], false)) = R
  (refine gives_iff ?_; refine go_func Tryd.f26 rfl rfl (by simp [Tryd.f26]) ?_; dsimp only [codeL, Tryd.f26, scL, sopsL, guardL, dstAt, loopKey])
  (repeat (first
    | (apply is_ok; (case hw => simp [g0, h16, hp]); (case he => simp [g0, h16, hp]; exact is_rfl))
    | (apply op_no; (case hw => simp [g0, h16, hp]))
    | refine op_nil ?_ | refine next_normal ?_ | refine go_seq ?_ | refine go_region ?_ | refine go_skip ?_ | refine go_block ?_ | refine inb_normal ?_
    | (apply go_yes; (case hc => simp [g0, h16, hp])) | (apply go_no; (case hc => simp [g0, h16, hp]))
    | refine go_exit ?_ | refine next_exit ?_ | refine inb_here ?_ | refine inb_past (by decide) ?_ | refine go_ret ?_ | refine next_ret ?_ | refine inb_ret ?_))
  refine go_count n (fun i => [(0, .str s), (1, .int .i64 e), (6, .int .i64 n), (9, .str (hdrK s i)), (10, .own 0 i 0 i), (11, .int .i64 i)])
    (fun i => [.dat true 1 (ints (logK s i))]) (fun i => okK e s i = true) (by simp [logK, hdrK, hn]) rfl fun i hi hI => ?_
  have hll := logK_length s i
  by_cases hlt : i < n
  · have hg := gi i (by omega)
    have hw : IntKind.i64.wrap ((i : Int) + 1) = (i : Int) + 1 := wrap_id (by omega) (by omega)
    have hw2 : IntKind.i64.wrap (2 * (i : Int)) = 2 * (i : Int) := wrap_id (by omega) (by omega)
    have hw3 : IntKind.i64.wrap (2 + 2 * (i : Int)) = 2 + 2 * (i : Int) := wrap_id (by omega) (by omega)
    have hls := logK_succ s i
    have hhs := hdrK_succ s i
    have hhl : (hdrK s i).length + 2 ≤ room := by rw [hdrK_take (by omega), List.length_take]; unfold room; omega
    obtain ⟨x, hx, hx2⟩ := wd_nat s (i + 1)
    have hpx := PutR_eq (x : Int) (by omega)
    have hok : okK e s (i + 1) = decide (lastK s i < wd s (i + 1) ∧ 18 ≤ wd s (i + 1) ∧ wd s (i + 1) < e) := by rw [okK, hI]; simp
    have hno := @okK_no e s n i
    have r1 : (i + 1) * 8 ≤ room := by unfold room; omega
    have r2 : i + 1 ≤ room := by unfold room; omega
    rw [hls, hhs]
    rw [hx] at hok hg ⊢
    generalize hdrK s i = D at hhl
    by_cases h1 : 18 ≤ (x : Int)
    case neg =>
      have h1' : ((x : Int) < 18) := by omega
      rw [hno (by rw [hok]; exact decide_eq_false fun h => h1 h.2.1) hlt] at hR
      subst hR
      (repeat (first
    | (apply is_ok; (case hw => simp [hlt, hg, hw2, hw3, h1', hll]); (case he => simp [hlt, hg, hw2, hw3, h1', hll]; exact is_rfl))
    | (apply op_no; (case hw => simp [hlt, hg, hw2, hw3, h1', hll]))
    | refine op_nil ?_ | refine next_normal ?_ | refine go_seq ?_ | refine go_region ?_ | refine go_skip ?_ | refine go_block ?_ | refine inb_normal ?_
    | (apply go_yes; (case hc => simp [hlt, hg, hw2, hw3, h1', hll])) | (apply go_no; (case hc => simp [hlt, hg, hw2, hw3, h1', hll]))
    | refine go_exit ?_ | refine next_exit ?_ | refine inb_here ?_ | refine inb_past (by decide) ?_ | refine go_ret ?_ | refine next_ret ?_ | refine inb_ret ?_))
      (apply ends_ok; (case h1 => simp; exact is_rfl); (case h2 => simp; exact is_rfl))
      simp
    have h1' : ¬ ((x : Int) < 18) := by omega
    by_cases h2 : (x : Int) < e
    case neg =>
      have h2' : e ≤ (x : Int) := by omega
      rw [hno (by rw [hok]; exact decide_eq_false fun h => h2 h.2.2) hlt] at hR
      subst hR
      (repeat (first
    | (apply is_ok; (case hw => simp [hlt, hg, hw2, hw3, h1', h2', hll]); (case he => simp [hlt, hg, hw2, hw3, h1', h2', hll]; exact is_rfl))
    | (apply op_no; (case hw => simp [hlt, hg, hw2, hw3, h1', h2', hll]))
    | refine op_nil ?_ | refine next_normal ?_ | refine go_seq ?_ | refine go_region ?_ | refine go_skip ?_ | refine go_block ?_ | refine inb_normal ?_
    | (apply go_yes; (case hc => simp [hlt, hg, hw2, hw3, h1', h2', hll])) | (apply go_no; (case hc => simp [hlt, hg, hw2, hw3, h1', h2', hll]))
    | refine go_exit ?_ | refine next_exit ?_ | refine inb_here ?_ | refine inb_past (by decide) ?_ | refine go_ret ?_ | refine next_ret ?_ | refine inb_ret ?_))
      (apply ends_ok; (case h1 => simp; exact is_rfl); (case h2 => simp; exact is_rfl))
      simp
    have h2' : ¬ e ≤ (x : Int) := by omega
    cases i with
    | zero =>
      have hl : lastK s 0 < x := by simp [lastK]; omega
      have hltI : (0 : Int) < (n : Int) := by omega
      rw [show (2 + 2 * ((0 : Nat) : Int)) = 2 from rfl] at hg
      generalize logK s 0 = K at hll
      (repeat (first
    | (apply is_ok; (case hw => simp [hltI, hlt, hg, hw2, hw3, h1', h2', hll, hpx, r1, r2, hhl]); (case he => simp [hltI, hlt, hg, hw2, hw3, h1', h2', hll, hpx, r1, r2, hhl]; exact is_rfl))
    | (apply op_no; (case hw => simp [hltI, hlt, hg, hw2, hw3, h1', h2', hll, hpx, r1, r2, hhl]))
    | refine op_nil ?_ | refine next_normal ?_ | refine go_seq ?_ | refine go_region ?_ | refine go_skip ?_ | refine go_block ?_ | refine inb_normal ?_
    | (apply go_yes; (case hc => simp [hltI, hlt, hg, hw2, hw3, h1', h2', hll, hpx, r1, r2, hhl])) | (apply go_no; (case hc => simp [hltI, hlt, hg, hw2, hw3, h1', h2', hll, hpx, r1, r2, hhl]))
    | refine go_exit ?_ | refine next_exit ?_ | refine inb_here ?_ | refine inb_past (by decide) ?_ | refine go_ret ?_ | refine next_ret ?_ | refine inb_ret ?_))
      exact ⟨hlt, by simp [hw], by rw [hok]; exact decide_eq_true ⟨hl, h1, h2⟩⟩
    | succ i =>
      have hl : lastK s (i + 1) = wd s (i + 1) := by simp [lastK]
      have hgt : (logK s (i + 1))[i]? = some (wd s (i + 1)) := by simp [logK]
      rw [hl] at hok
      generalize wd s (i + 1) = k at hok hgt
      have a1 : (0 : Int) < (i : Int) + 1 := by omega
      have hltI : (i : Int) + 1 < (n : Int) := by omega
      have hcast : ((i + 1 : Nat) : Int) = (i : Int) + 1 := by omega
      rw [hcast] at hg hw hw2 hw3
      have a2 : IntKind.i64.wrap ((i : Int) + 1 - 1) = i := by rw [wrap_id (by omega) (by omega)]; omega
      have a3 : IntKind.i64.wrap (i : Int) = i := wrap_id (by omega) (by omega)
      generalize logK s (i + 1) = K at hll hgt
      obtain ⟨hK1, hgt2⟩ := List.getElem?_eq_some_iff.1 hgt
      by_cases h3 : k < x
      · have h3' : ¬ ((x : Int) ≤ k) := by omega
        (repeat (first
    | (apply is_ok; (case hw => simp [hltI, hlt, hg, hw2, hw3, h1', h2', a1, a2, a3, h3', hll, hgt, hgt2, hpx, r1, r2, hhl]); (case he => simp [hltI, hlt, hg, hw2, hw3, h1', h2', a1, a2, a3, h3', hll, hgt, hgt2, hpx, r1, r2, hhl]; exact is_rfl))
    | (apply op_no; (case hw => simp [hltI, hlt, hg, hw2, hw3, h1', h2', a1, a2, a3, h3', hll, hgt, hgt2, hpx, r1, r2, hhl]))
    | refine op_nil ?_ | refine next_normal ?_ | refine go_seq ?_ | refine go_region ?_ | refine go_skip ?_ | refine go_block ?_ | refine inb_normal ?_
    | (apply go_yes; (case hc => simp [hltI, hlt, hg, hw2, hw3, h1', h2', a1, a2, a3, h3', hll, hgt, hgt2, hpx, r1, r2, hhl])) | (apply go_no; (case hc => simp [hltI, hlt, hg, hw2, hw3, h1', h2', a1, a2, a3, h3', hll, hgt, hgt2, hpx, r1, r2, hhl]))
    | refine go_exit ?_ | refine next_exit ?_ | refine inb_here ?_ | refine inb_past (by decide) ?_ | refine go_ret ?_ | refine next_ret ?_ | refine inb_ret ?_))
        exact ⟨hlt, by simp [hw], by rw [hok]; exact decide_eq_true ⟨h3, h1, h2⟩⟩
      · have h3' : ((x : Int) ≤ k) := by omega
        rw [hno (by rw [hok]; exact decide_eq_false fun h => h3 h.1) hlt] at hR
        subst hR
        (repeat (first
    | (apply is_ok; (case hw => simp [hltI, hlt, hg, hw2, hw3, h1', h2', a1, a2, a3, h3', hll, hgt, hgt2]); (case he => simp [hltI, hlt, hg, hw2, hw3, h1', h2', a1, a2, a3, h3', hll, hgt, hgt2]; exact is_rfl))
    | (apply op_no; (case hw => simp [hltI, hlt, hg, hw2, hw3, h1', h2', a1, a2, a3, h3', hll, hgt, hgt2]))
    | refine op_nil ?_ | refine next_normal ?_ | refine go_seq ?_ | refine go_region ?_ | refine go_skip ?_ | refine go_block ?_ | refine inb_normal ?_
    | (apply go_yes; (case hc => simp [hltI, hlt, hg, hw2, hw3, h1', h2', a1, a2, a3, h3', hll, hgt, hgt2])) | (apply go_no; (case hc => simp [hltI, hlt, hg, hw2, hw3, h1', h2', a1, a2, a3, h3', hll, hgt, hgt2]))
    | refine go_exit ?_ | refine next_exit ?_ | refine inb_here ?_ | refine inb_past (by decide) ?_ | refine go_ret ?_ | refine next_ret ?_ | refine inb_ret ?_))
        (apply ends_ok; (case h1 => simp; exact is_rfl); (case h2 => simp; exact is_rfl))
        simp
  · have hin : i = n := by omega
    subst hin
    rw [hI] at hR
    simp only [if_true] at hR
    subst hR
    have hz := zeros37_eq (hdrK s i) (by rw [hdrK_take (by omega), List.length_take]; omega)
    have hz2 := @hdrK_pad s i hs (by omega)
    generalize padS (hdrK s i) = p at hz hz2
    have hz3 : (s == p) = decide (zeroFrom s (2 * i + 2)) := by
      rw [Bool.eq_iff_iff, decide_eq_true_iff, beq_iff_eq]
      exact hz2
    rw [← hz3]
    (repeat (first
    | (apply is_ok; (case hw => simp [hlt, hz]); (case he => simp [hlt, hz]; exact is_rfl))
    | (apply op_no; (case hw => simp [hlt, hz]))
    | refine op_nil ?_ | refine next_normal ?_ | refine go_seq ?_ | refine go_region ?_ | refine go_skip ?_ | refine go_block ?_ | refine inb_normal ?_
    | (apply go_yes; (case hc => simp [hlt, hz])) | (apply go_no; (case hc => simp [hlt, hz]))
    | refine go_exit ?_ | refine next_exit ?_ | refine inb_here ?_ | refine inb_past (by decide) ?_ | refine go_ret ?_ | refine next_ret ?_ | refine inb_ret ?_))
    (apply ends_ok; (case h1 => simp; exact is_rfl); (case h2 => simp; exact is_rfl))
    simp [hll]
end Go.Abs
