/- Proved here: what functions of the program compute, over the evaluator. No condition but those that each theorem states. -/
import Derived.Test.YtpffmpllnpmkbaaDoorG3
namespace Go.Abs
open Go.Proofs
set_option maxRecDepth 100000
set_option linter.unusedSimpArgs false
set_option linter.unusedVariables false

def trimL : List UInt8 → List UInt8
  | [] => []
  | b :: l => if b = 0 then trimL l else b :: l
def trimR (s : List UInt8) : List UInt8 := (trimL s.reverse).reverse
theorem trimL_length : ∀ s : List UInt8, (trimL s).length ≤ s.length
  | [] => by simp [trimL]
  | b :: l => by
    rw [trimL]
    split
    · have := trimL_length l
      rw [List.length_cons]; omega
    · exact Nat.le_refl _
theorem trimR_length (s : List UInt8) : (trimR s).length ≤ s.length := by
  unfold trimR
  have := trimL_length s.reverse
  simpa using this
theorem trimR_snoc (t : List UInt8) (x : UInt8) : trimR (t ++ [x]) = if x = 0 then trimR t else t ++ [x] := by
  unfold trimR
  rw [List.reverse_append]
  show (trimL (x :: t.reverse)).reverse = _
  rw [trimL]
  split <;> simp
theorem trimL_nil : ∀ s : List UInt8, trimL s = [] ↔ ∀ b ∈ s, b = 0
  | [] => by simp [trimL]
  | b :: l => by
    rw [trimL]
    split
    · rename_i h
      rw [trimL_nil l]
      simp [h]
    · rename_i h
      simp [h]
theorem trim_nil (s : List UInt8) : trimL (trimR s) = [] ↔ ∀ b ∈ s, b = 0 := by
  rw [trimL_nil]
  constructor
  · intro h
    have h2 : trimR s = [] ∨ trimR s ≠ [] := Classical.em _
    rcases h2 with h2 | h2
    · unfold trimR at h2
      rw [List.reverse_eq_nil_iff, trimL_nil] at h2
      intro b hb
      exact h2 b (List.mem_reverse.2 hb)
    · exfalso
      rcases List.eq_nil_or_concat (trimR s) with h3 | ⟨t, x, h3⟩
      · exact h2 h3
      · have hx : x = 0 := h x (by rw [h3]; simp)
        unfold trimR at h3
        have h4 : trimL s.reverse = x :: t.reverse := by
          have := congrArg List.reverse h3
          simpa using this
        have : ∀ (l : List UInt8) y r, trimL l = y :: r → y ≠ 0 := by
          intro l
          induction l with
          | nil => intro y r h; cases h
          | cons b l ih =>
            intro y r h
            rw [trimL] at h
            split at h
            · exact ih y r h
            · rename_i hb
              cases h
              exact hb
        exact this _ _ _ h4 hx
  · intro h b hb
    unfold trimR at hb
    rw [List.mem_reverse] at hb
    have : ∀ (l : List UInt8), (∀ b ∈ l, b = 0) → trimL l = [] := fun l h => (trimL_nil l).2 h
    rw [this s.reverse (fun b hb => h b (List.mem_reverse.1 hb))] at hb
    cases hb

theorem trimLeft_eq (s : List UInt8) (hs : s.length ≤ 1000000) : bodyW DC 60 [.str s, .int .u8 0] [] = some (.str (trimL s), []) := by
  generalize hR : trimL s = R
  (refine gives_iff ?_; refine go_func Tryd.f60 rfl rfl (by simp [Tryd.f60]) ?_; dsimp only [codeL, Tryd.f60, scL, sopsL, guardL, dstAt, loopKey])
  (repeat (first
    | (apply is_ok; (case hw => simp); (case he => simp; exact is_rfl))
    | (apply op_no; (case hw => simp))
    | refine op_nil ?_ | refine next_normal ?_ | refine go_seq ?_ | refine go_region ?_ | refine go_skip ?_ | refine go_block ?_ | refine inb_normal ?_
    | (apply go_yes; (case hc => simp)) | (apply go_no; (case hc => simp))
    | refine go_exit ?_ | refine next_exit ?_ | refine inb_here ?_ | refine inb_past (by decide) ?_ | refine go_ret ?_ | refine next_ret ?_ | refine inb_ret ?_))
  refine go_while (σ := List UInt8) (fun s => [(0, .str s), (1, .int .u8 0)]) (fun _ => []) (fun s => trimL s = R ∧ s.length ≤ 1000000) (fun s => s.length) s (by simp) ⟨hR, hs⟩ fun s ⟨hI, hl⟩ => ?_
  cases s with
  | nil =>
    subst hI
    (repeat (first
    | (apply is_ok; (case hw => simp); (case he => simp; exact is_rfl))
    | (apply op_no; (case hw => simp))
    | refine op_nil ?_ | refine next_normal ?_ | refine go_seq ?_ | refine go_region ?_ | refine go_skip ?_ | refine go_block ?_ | refine inb_normal ?_
    | (apply go_yes; (case hc => simp)) | (apply go_no; (case hc => simp))
    | refine go_exit ?_ | refine next_exit ?_ | refine inb_here ?_ | refine inb_past (by decide) ?_ | refine go_ret ?_ | refine next_ret ?_ | refine inb_ret ?_))
    (apply ends_ok; (case h1 => simp; exact is_rfl); (case h2 => simp; exact is_rfl))
    simp [trimL]
  | cons b l =>
    rw [trimL] at hI
    have h1 : (0 : Int) < (l.length : Int) + 1 := by omega
    by_cases hb : b = 0
    · subst hb
      rw [if_pos rfl] at hI
      (repeat (first
    | (apply is_ok; (case hw => simp [h1]); (case he => simp [h1]; exact is_rfl))
    | (apply op_no; (case hw => simp [h1]))
    | refine op_nil ?_ | refine next_normal ?_ | refine go_seq ?_ | refine go_region ?_ | refine go_skip ?_ | refine go_block ?_ | refine inb_normal ?_
    | (apply go_yes; (case hc => simp [h1])) | (apply go_no; (case hc => simp [h1]))
    | refine go_exit ?_ | refine next_exit ?_ | refine inb_here ?_ | refine inb_past (by decide) ?_ | refine go_ret ?_ | refine next_ret ?_ | refine inb_ret ?_))
      exact ⟨l, by simp, by simp, hI, by rw [List.length_cons] at hl; omega⟩
    · rw [if_neg hb] at hI
      subst hI
      have h2 : ¬ ((b.toNat : Int) = 0) := fun h => hb (UInt8.toNat_inj.1 (by simpa using h))
      have h3 : ¬ (b.toNat = 0) := by omega
      (repeat (first
    | (apply is_ok; (case hw => simp [h1, h2, h3, hb]); (case he => simp [h1, h2, h3, hb]; exact is_rfl))
    | (apply op_no; (case hw => simp [h1, h2, h3, hb]))
    | refine op_nil ?_ | refine next_normal ?_ | refine go_seq ?_ | refine go_region ?_ | refine go_skip ?_ | refine go_block ?_ | refine inb_normal ?_
    | (apply go_yes; (case hc => simp [h1, h2, h3, hb])) | (apply go_no; (case hc => simp [h1, h2, h3, hb]))
    | refine go_exit ?_ | refine next_exit ?_ | refine inb_here ?_ | refine inb_past (by decide) ?_ | refine go_ret ?_ | refine next_ret ?_ | refine inb_ret ?_))
      (apply ends_ok; (case h1 => simp; exact is_rfl); (case h2 => simp; exact is_rfl))
      simp

theorem trimRight_eq (s : List UInt8) (hs : s.length ≤ 1000000) : bodyW DC 61 [.str s, .int .u8 0] [] = some (.str (trimR s), []) := by
  generalize hR : trimR s = R
  (refine gives_iff ?_; refine go_func Tryd.f61 rfl rfl (by simp [Tryd.f61]) ?_; dsimp only [codeL, Tryd.f61, scL, sopsL, guardL, dstAt, loopKey])
  (repeat (first
    | (apply is_ok; (case hw => simp); (case he => simp; exact is_rfl))
    | (apply op_no; (case hw => simp))
    | refine op_nil ?_ | refine next_normal ?_ | refine go_seq ?_ | refine go_region ?_ | refine go_skip ?_ | refine go_block ?_ | refine inb_normal ?_
    | (apply go_yes; (case hc => simp)) | (apply go_no; (case hc => simp))
    | refine go_exit ?_ | refine next_exit ?_ | refine inb_here ?_ | refine inb_past (by decide) ?_ | refine go_ret ?_ | refine next_ret ?_ | refine inb_ret ?_))
  refine go_while (σ := List UInt8) (fun s => [(0, .str s), (1, .int .u8 0)]) (fun _ => []) (fun s => trimR s = R ∧ s.length ≤ 1000000) (fun s => s.length) s (by simp) ⟨hR, hs⟩ fun s ⟨hI, hl⟩ => ?_
  rcases List.eq_nil_or_concat s with h0 | ⟨t, x, h0⟩
  · subst h0
    subst hI
    (repeat (first
    | (apply is_ok; (case hw => simp); (case he => simp; exact is_rfl))
    | (apply op_no; (case hw => simp))
    | refine op_nil ?_ | refine next_normal ?_ | refine go_seq ?_ | refine go_region ?_ | refine go_skip ?_ | refine go_block ?_ | refine inb_normal ?_
    | (apply go_yes; (case hc => simp)) | (apply go_no; (case hc => simp))
    | refine go_exit ?_ | refine next_exit ?_ | refine inb_here ?_ | refine inb_past (by decide) ?_ | refine go_ret ?_ | refine next_ret ?_ | refine inb_ret ?_))
    (apply ends_ok; (case h1 => simp; exact is_rfl); (case h2 => simp; exact is_rfl))
    simp [trimR, trimL]
  · subst h0
    rw [List.concat_eq_append] at hI hl ⊢
    rw [trimR_snoc] at hI
    rw [List.length_append, List.length_singleton] at hl
    have h1 : (0 : Int) < (t.length : Int) + 1 := by omega
    have h4 : IntKind.i64.wrap ((t.length : Int) + 1 - 1) = t.length := by rw [wrap_id (by omega) (by omega)]; omega
    have h5 : IntKind.i64.wrap (t.length : Int) = t.length := wrap_id (by omega) (by omega)
    by_cases hb : x = 0
    · subst hb
      rw [if_pos rfl] at hI
      (repeat (first
    | (apply is_ok; (case hw => simp [h1, h4, h5]); (case he => simp [h1, h4, h5]; exact is_rfl))
    | (apply op_no; (case hw => simp [h1, h4, h5]))
    | refine op_nil ?_ | refine next_normal ?_ | refine go_seq ?_ | refine go_region ?_ | refine go_skip ?_ | refine go_block ?_ | refine inb_normal ?_
    | (apply go_yes; (case hc => simp [h1, h4, h5])) | (apply go_no; (case hc => simp [h1, h4, h5]))
    | refine go_exit ?_ | refine next_exit ?_ | refine inb_here ?_ | refine inb_past (by decide) ?_ | refine go_ret ?_ | refine next_ret ?_ | refine inb_ret ?_))
      exact ⟨t, by simp, by simp, hI, by omega⟩
    · rw [if_neg hb] at hI
      subst hI
      have h2 : ¬ ((x.toNat : Int) = 0) := fun h => hb (UInt8.toNat_inj.1 (by simpa using h))
      have h3 : ¬ (x.toNat = 0) := by omega
      (repeat (first
    | (apply is_ok; (case hw => simp [h1, h2, h3, h4, h5, hb]); (case he => simp [h1, h2, h3, h4, h5, hb]; exact is_rfl))
    | (apply op_no; (case hw => simp [h1, h2, h3, h4, h5, hb]))
    | refine op_nil ?_ | refine next_normal ?_ | refine go_seq ?_ | refine go_region ?_ | refine go_skip ?_ | refine go_block ?_ | refine inb_normal ?_
    | (apply go_yes; (case hc => simp [h1, h2, h3, h4, h5, hb])) | (apply go_no; (case hc => simp [h1, h2, h3, h4, h5, hb]))
    | refine go_exit ?_ | refine next_exit ?_ | refine inb_here ?_ | refine inb_past (by decide) ?_ | refine go_ret ?_ | refine next_ret ?_ | refine inb_ret ?_))
      (apply ends_ok; (case h1 => simp; exact is_rfl); (case h2 => simp; exact is_rfl))
      simp

theorem Trim_eq (s : List UInt8) (hs : s.length ≤ 1000000) : bodyW DC 43 [.str s, .str [0]] [] = some (.str (trimL (trimR s)), []) := by
  cases s with
  | nil =>
    (refine gives_iff ?_; refine go_func Tryd.f43 rfl rfl (by simp [Tryd.f43]) ?_; dsimp only [codeL, Tryd.f43, scL, sopsL, guardL, dstAt, loopKey])
    (repeat (first
    | (apply is_ok; (case hw => simp); (case he => simp; exact is_rfl))
    | (apply op_no; (case hw => simp))
    | refine op_nil ?_ | refine next_normal ?_ | refine go_seq ?_ | refine go_region ?_ | refine go_skip ?_ | refine go_block ?_ | refine inb_normal ?_
    | (apply go_yes; (case hc => simp)) | (apply go_no; (case hc => simp))
    | refine go_exit ?_ | refine next_exit ?_ | refine inb_here ?_ | refine inb_past (by decide) ?_ | refine go_ret ?_ | refine next_ret ?_ | refine inb_ret ?_))
    (apply ends_ok; (case h1 => simp; exact is_rfl); (case h2 => simp; exact is_rfl))
    simp [trimR, trimL]
  | cons b l =>
    have h1 := trimRight_eq (b :: l) hs
    have h2 := trimLeft_eq (trimR (b :: l)) (by have := trimR_length (b :: l); omega)
    generalize trimR (b :: l) = t at h1 h2
    (refine gives_iff ?_; refine go_func Tryd.f43 rfl rfl (by simp [Tryd.f43]) ?_; dsimp only [codeL, Tryd.f43, scL, sopsL, guardL, dstAt, loopKey])
    (repeat (first
    | (apply is_ok; (case hw => simp [h1, h2]); (case he => simp [h1, h2]; exact is_rfl))
    | (apply op_no; (case hw => simp [h1, h2]))
    | refine op_nil ?_ | refine next_normal ?_ | refine go_seq ?_ | refine go_region ?_ | refine go_skip ?_ | refine go_block ?_ | refine inb_normal ?_
    | (apply go_yes; (case hc => simp [h1, h2])) | (apply go_no; (case hc => simp [h1, h2]))
    | refine go_exit ?_ | refine next_exit ?_ | refine inb_here ?_ | refine inb_past (by decide) ?_ | refine go_ret ?_ | refine next_ret ?_ | refine inb_ret ?_))
    (apply ends_ok; (case h1 => simp; exact is_rfl); (case h2 => simp; exact is_rfl))
    simp
end Go.Abs

namespace Go.Abs
open Go.Proofs
set_option maxRecDepth 100000
set_option linter.unusedSimpArgs false
set_option linter.unusedVariables false

theorem Get_wd (s : List UInt8) (j : Nat) (a : Int) (ha : a = 2 * (j : Int)) (h : 2 * j + 2 ≤ s.length) (hs : s.length ≤ 1000000) :
    bodyW DC 40 [.str s, .int .i64 a, .int .i64 2] [] = some (.tuple [.int .i64 (wd s j), .int .i64 (a + 2), .int .i64 0], []) := by
  have := Get_eq s (2 * j) h hs
  rw [show ((2 * j : Nat) : Int) = a by omega] at this
  rw [this]
  unfold wd
  rw [getD_at (by omega), getD_at (by omega)]
theorem GetR_wd (s : List UInt8) (j : Nat) (a : Int) (ha : a = 2 * (j : Int)) (h : 2 * j + 2 ≤ s.length) (hs : s.length ≤ 1000000) :
    bodyW DC 45 [.str s, .int .i64 a, .int .i64 2] [] = some (.tuple [.int .i64 (wd s j), .int .i64 (a + 2), .int .i64 0], []) := by
  have := GetR_eq s (2 * j) h hs
  rw [show ((2 * j : Nat) : Int) = a by omega] at this
  rw [this]
  unfold wd
  rw [getD_at (by omega), getD_at (by omega)]

def logK (s : List UInt8) (n : Nat) : List Int := (List.range n).map fun i => wd s (i + 1)
theorem logK_succ (s : List UInt8) (n : Nat) : logK s (n + 1) = logK s n ++ [wd s (n + 1)] := by simp [logK, List.range_succ]
theorem logK_length (s : List UInt8) (n : Nat) : (logK s n).length = n := by simp [logK]
def lastK (s : List UInt8) (i : Nat) : Int := if i = 0 then -1 else wd s i
/-- Are the first n sectors of a log header right? -/
def okK (e : Int) (s : List UInt8) : Nat → Bool
  | 0 => true
  | i + 1 => okK e s i && decide (lastK s i < wd s (i + 1) ∧ 18 ≤ wd s (i + 1) ∧ wd s (i + 1) < e)
theorem okK_le {e : Int} {s : List UInt8} : ∀ {n i : Nat}, okK e s n = true → i ≤ n → okK e s i = true
  | 0, i, h, hi => by obtain rfl : i = 0 := by omega
                      exact h
  | n + 1, i, h, hi => by
    by_cases h1 : i = n + 1
    · subst h1; exact h
    · rw [okK, Bool.and_eq_true] at h
      exact okK_le h.1 (by omega)
theorem okK_no {e : Int} {s : List UInt8} {n i : Nat} (h : okK e s (i + 1) = false) (hi : i < n) : okK e s n = false := by
  cases hn : okK e s n with
  | false => rfl
  | true => rw [okK_le hn (by omega)] at h; cases h
def zeroFrom (s : List UInt8) (k : Nat) : Prop := ∀ b ∈ s.drop k, b = 0
instance (s : List UInt8) (k : Nat) : Decidable (zeroFrom s k) := by unfold zeroFrom; infer_instance
/-- The sectors of a log header, and whether it is valid. -/
def logS (e : Int) (s : List UInt8) : List Int × Bool :=
  if 16 < wd s 0 then ([], false) else if okK e s (wd s 0).toNat then (logK s (wd s 0).toNat, decide (zeroFrom s (2 * (wd s 0).toNat + 2))) else ([], false)

theorem wd_nat (s : List UInt8) (i : Nat) : ∃ n : Nat, wd s i = n ∧ n ≤ 65535 := by
  have h := word_range (s.getD (2 * i) 0) (s.getD (2 * i + 1) 0)
  exact ⟨(wd s i).toNat, by unfold wd at *; omega, by unfold wd at *; omega⟩

theorem logged_eq (S : List (List UInt8)) (B : List Int) (hB : B.length ≤ maxLen) (hv : VolP S B) (s : List UInt8) (hs : s.length = 128) :
    bodyW DC 22 [drv S B, .str s] [] = some (.tuple [.own 0 (logS (S.length - swapW S) s).1.length 0 (logS (S.length - swapW S) s).1.length, .bool (logS (S.length - swapW S) s).2], [.dat true 1 (ints (logS (S.length - swapW S) s).1)]) := by
  have hO := ofFiles_eq S B hB hv
  generalize (S.length : Int) - swapW S = e at hO ⊢
  have g0 := Get_wd s 0 0 rfl (by omega) (by omega)
  have gi := fun i (hi : i < 16) => Get_wd s (i + 1) (2 * ((i : Int) + 1)) (by omega) (by omega) (by omega)
  obtain ⟨n, hn, hn2⟩ := wd_nat s 0
  unfold logS
  rw [hn] at g0 ⊢
  rw [show ((n : Int)).toNat = n from rfl]
  by_cases h16 : (16 : Int) < n
  · rw [if_pos h16]
    (refine gives_iff ?_; refine go_func Tryd.f22 rfl rfl (by simp [Tryd.f22]) ?_; dsimp only [codeL, Tryd.f22, scL, sopsL, guardL, dstAt, loopKey])
    (repeat (first
    | (apply is_ok; (case hw => simp [g0, h16]); (case he => simp [g0, h16]; exact is_rfl))
    | (apply op_no; (case hw => simp [g0, h16]))
    | refine op_nil ?_ | refine next_normal ?_ | refine go_seq ?_ | refine go_region ?_ | refine go_skip ?_ | refine go_block ?_ | refine inb_normal ?_
    | (apply go_yes; (case hc => simp [g0, h16])) | (apply go_no; (case hc => simp [g0, h16]))
    | refine go_exit ?_ | refine next_exit ?_ | refine inb_here ?_ | refine inb_past (by decide) ?_ | refine go_ret ?_ | refine next_ret ?_ | refine inb_ret ?_))
    (apply ends_ok; (case h1 => simp; exact is_rfl); (case h2 => simp; exact is_rfl))
    simp
  rw [if_neg h16]
  have hT := Trim_eq (s.drop (2 * n + 2)) (by rw [List.length_drop]; omega)
  generalize hR : (if okK e s n then (logK s n, decide (zeroFrom s (2 * n + 2))) else ([], false)) = R
  (refine gives_iff ?_; refine go_func Tryd.f22 rfl rfl (by simp [Tryd.f22]) ?_; dsimp only [codeL, Tryd.f22, scL, sopsL, guardL, dstAt, loopKey])
  (repeat (first
    | (apply is_ok; (case hw => simp [g0, h16]); (case he => simp [g0, h16]; exact is_rfl))
    | (apply op_no; (case hw => simp [g0, h16]))
    | refine op_nil ?_ | refine next_normal ?_ | refine go_seq ?_ | refine go_region ?_ | refine go_skip ?_ | refine go_block ?_ | refine inb_normal ?_
    | (apply go_yes; (case hc => simp [g0, h16])) | (apply go_no; (case hc => simp [g0, h16]))
    | refine go_exit ?_ | refine next_exit ?_ | refine inb_here ?_ | refine inb_past (by decide) ?_ | refine go_ret ?_ | refine next_ret ?_ | refine inb_ret ?_))
  refine go_count n (fun i => [(1, .str s), (2, .ptr 0 1 0 0), (7, .int .i64 (2 * ((i : Int) + 1))), (9, .own 1 i 0 i), (10, .int .i64 (lastK s i)), (22, .int .i64 n), (23, .int .i64 i)])
    (fun i => [.box (drv S B), .dat true 1 (ints (logK s i))]) (fun i => okK e s i = true) (by simp [logK, lastK]) rfl fun i hi hI => ?_
  have hll := logK_length s i
  by_cases hlt : i < n
  · have hg := gi i (by omega)
    have hw : IntKind.i64.wrap ((i : Int) + 1) = (i : Int) + 1 := wrap_id (by omega) (by omega)
    have hq : 2 * ((i : Int) + 1) + 2 = 2 * ((i : Int) + 1 + 1) := by omega
    have hls := logK_succ s i
    have hlk : lastK s (i + 1) = wd s (i + 1) := by simp [lastK]
    have hok : okK e s (i + 1) = decide (lastK s i < wd s (i + 1) ∧ 18 ≤ wd s (i + 1) ∧ wd s (i + 1) < e) := by rw [okK, hI]; simp
    have hno := @okK_no e s n i
    have hOk := hO (wd s (i + 1))
    have r1 : (i + 1) * 8 ≤ room := by unfold room; omega
    have r2 : i + 1 ≤ room := by unfold room; omega
    rw [hls, hlk]
    generalize lastK s i = k at hok
    generalize wd s (i + 1) = x at hg hok hOk
    generalize logK s i = K at hll
    by_cases h1 : k < x
    · have h1' : ¬ x ≤ k := by omega
      by_cases h2 : 18 ≤ x ∧ x < e
      · rw [decide_eq_true h2] at hOk
        (repeat (first
    | (apply is_ok; (case hw => simp [hlt, hg, h1', hOk, hll, r1, r2]); (case he => simp [hlt, hg, h1', hOk, hll, r1, r2]; exact is_rfl))
    | (apply op_no; (case hw => simp [hlt, hg, h1', hOk, hll, r1, r2]))
    | refine op_nil ?_ | refine next_normal ?_ | refine go_seq ?_ | refine go_region ?_ | refine go_skip ?_ | refine go_block ?_ | refine inb_normal ?_
    | (apply go_yes; (case hc => simp [hlt, hg, h1', hOk, hll, r1, r2])) | (apply go_no; (case hc => simp [hlt, hg, h1', hOk, hll, r1, r2]))
    | refine go_exit ?_ | refine next_exit ?_ | refine inb_here ?_ | refine inb_past (by decide) ?_ | refine go_ret ?_ | refine next_ret ?_ | refine inb_ret ?_))
        exact ⟨hlt, by simp [hw, hq], by rw [hok]; exact decide_eq_true ⟨h1, h2⟩⟩
      · rw [decide_eq_false h2] at hOk
        rw [hno (by rw [hok]; exact decide_eq_false fun h => h2 h.2) hlt] at hR
        subst hR
        (repeat (first
    | (apply is_ok; (case hw => simp [hlt, hg, h1', hOk, hll]); (case he => simp [hlt, hg, h1', hOk, hll]; exact is_rfl))
    | (apply op_no; (case hw => simp [hlt, hg, h1', hOk, hll]))
    | refine op_nil ?_ | refine next_normal ?_ | refine go_seq ?_ | refine go_region ?_ | refine go_skip ?_ | refine go_block ?_ | refine inb_normal ?_
    | (apply go_yes; (case hc => simp [hlt, hg, h1', hOk, hll])) | (apply go_no; (case hc => simp [hlt, hg, h1', hOk, hll]))
    | refine go_exit ?_ | refine next_exit ?_ | refine inb_here ?_ | refine inb_past (by decide) ?_ | refine go_ret ?_ | refine next_ret ?_ | refine inb_ret ?_))
        (apply ends_ok; (case h1 => simp; exact is_rfl); (case h2 => simp; exact is_rfl))
        simp
    · have h1' : x ≤ k := by omega
      rw [hno (by rw [hok]; exact decide_eq_false fun h => h1 h.1) hlt] at hR
      subst hR
      (repeat (first
    | (apply is_ok; (case hw => simp [hlt, hg, h1', hll]); (case he => simp [hlt, hg, h1', hll]; exact is_rfl))
    | (apply op_no; (case hw => simp [hlt, hg, h1', hll]))
    | refine op_nil ?_ | refine next_normal ?_ | refine go_seq ?_ | refine go_region ?_ | refine go_skip ?_ | refine go_block ?_ | refine inb_normal ?_
    | (apply go_yes; (case hc => simp [hlt, hg, h1', hll])) | (apply go_no; (case hc => simp [hlt, hg, h1', hll]))
    | refine go_exit ?_ | refine next_exit ?_ | refine inb_here ?_ | refine inb_past (by decide) ?_ | refine go_ret ?_ | refine next_ret ?_ | refine inb_ret ?_))
      (apply ends_ok; (case h1 => simp; exact is_rfl); (case h2 => simp; exact is_rfl))
      simp
  · have hin : i = n := by omega
    subst hin
    rw [hI] at hR
    simp only [if_true] at hR
    subst hR
    have a1 : (0 : Int) ≤ 2 * ((i : Int) + 1) := by omega
    have a2 : (2 * ((i : Int) + 1)).toNat = 2 * i + 2 := by omega
    have a3 : 2 * i + 2 ≤ s.length := by omega
    have hz : (trimL (trimR (s.drop (2 * i + 2))) == []) = decide (zeroFrom s (2 * i + 2)) := by
      rw [Bool.eq_iff_iff, decide_eq_true_iff, beq_iff_eq, trim_nil]
      rfl
    have hz2 : decide (trimL (trimR (s.drop (2 * i + 2))) = []) = decide (zeroFrom s (2 * i + 2)) := by
      rw [← hz, Bool.eq_iff_iff, decide_eq_true_iff, beq_iff_eq]
    rw [← hz]
    generalize trimL (trimR (s.drop (2 * i + 2))) = t at hT
    (repeat (first
    | (apply is_ok; (case hw => simp [hlt, a1, a2, a3, hT]); (case he => simp [hlt, a1, a2, a3, hT]; exact is_rfl))
    | (apply op_no; (case hw => simp [hlt, a1, a2, a3, hT]))
    | refine op_nil ?_ | refine next_normal ?_ | refine go_seq ?_ | refine go_region ?_ | refine go_skip ?_ | refine go_block ?_ | refine inb_normal ?_
    | (apply go_yes; (case hc => simp [hlt, a1, a2, a3, hT])) | (apply go_no; (case hc => simp [hlt, a1, a2, a3, hT]))
    | refine go_exit ?_ | refine next_exit ?_ | refine inb_here ?_ | refine inb_past (by decide) ?_ | refine go_ret ?_ | refine next_ret ?_ | refine inb_ret ?_))
    (apply ends_ok; (case h1 => simp; exact is_rfl); (case h2 => simp; exact is_rfl))
    simp [hll]

theorem put2_wd {s : List UInt8} {j : Nat} (h : 2 * j + 2 ≤ s.length) : put2 (wd s j) = [s[2 * j]'(by omega), s[2 * j + 1]'(by omega)] := by
  unfold wd put2 word
  rw [getD_at (by omega), getD_at (by omega)]
  have h1 := (s[2 * j]'(by omega)).toNat_lt
  have h2 := (s[2 * j + 1]'(by omega)).toNat_lt
  rw [show ((((s[2 * j]'(by omega)).toNat : Int) + 256 * (s[2 * j + 1]'(by omega)).toNat)).toNat = (s[2 * j]'(by omega)).toNat + 256 * (s[2 * j + 1]'(by omega)).toNat by omega]
  rw [show ((s[2 * j]'(by omega)).toNat + 256 * (s[2 * j + 1]'(by omega)).toNat) % 256 = (s[2 * j]'(by omega)).toNat by omega]
  rw [show ((s[2 * j]'(by omega)).toNat + 256 * (s[2 * j + 1]'(by omega)).toNat) / 256 % 256 = (s[2 * j + 1]'(by omega)).toNat by omega]
  simp
def hdrK (s : List UInt8) (n : Nat) : List UInt8 := put2 (wd s 0) ++ (logK s n).flatMap put2
theorem hdrK_succ (s : List UInt8) (n : Nat) : hdrK s (n + 1) = hdrK s n ++ put2 (wd s (n + 1)) := by unfold hdrK; rw [logK_succ]; simp
theorem hdrK_take {s : List UInt8} : ∀ {n : Nat}, 2 * n + 2 ≤ s.length → hdrK s n = s.take (2 * n + 2)
  | 0, h => by
    unfold hdrK
    rw [put2_wd (by omega)]
    match s, h with
    | a :: b :: s, h => simp [logK]
  | n + 1, h => by
    have e1 : s.take (2 * n + 2 + 1 + 1) = s.take (2 * n + 2 + 1) ++ [s[2 * n + 2 + 1]'(by omega)] := List.take_succ_eq_append_getElem (by omega)
    have e2 : s.take (2 * n + 2 + 1) = s.take (2 * n + 2) ++ [s[2 * n + 2]'(by omega)] := List.take_succ_eq_append_getElem (by omega)
    rw [hdrK_succ, hdrK_take (by omega), put2_wd (by omega), show 2 * (n + 1) + 2 = (2 * n + 2 + 1) + 1 by omega, e1, e2]
    simp only [List.append_assoc, List.cons_append, List.nil_append, show 2 * (n + 1) = 2 * n + 2 by omega]
theorem hdrK_pad {s : List UInt8} {n : Nat} (hs : s.length = 128) (h : n ≤ 16) : s = padS (hdrK s n) ↔ zeroFrom s (2 * n + 2) := by
  rw [hdrK_take (by omega)]
  unfold padS zeroFrom
  rw [show (s.take (2 * n + 2)).length = 2 * n + 2 by rw [List.length_take]; omega]
  have hl : (s.drop (2 * n + 2)).length = 128 - (2 * n + 2) := by rw [List.length_drop, hs]
  constructor
  · intro h b hb
    have h2 := List.take_append_drop (2 * n + 2) s
    have h3 : s.drop (2 * n + 2) = List.replicate (128 - (2 * n + 2)) 0 := by
      exact List.append_cancel_left (h2.trans h)
    rw [h3] at hb
    exact List.eq_of_mem_replicate hb
  · intro h
    have h3 : s.drop (2 * n + 2) = List.replicate (128 - (2 * n + 2)) 0 := List.eq_replicate_iff.2 ⟨hl, h⟩
    rw [← h3, List.take_append_drop]

theorem sectors37_eq (e : Int) (s : List UInt8) (hs : s.length = 128) :
    bodyW DC 26 [.str s, .int .i64 e] [] = some (.tuple [.own 0 (logS e s).1.length 0 (logS e s).1.length, .bool (logS e s).2], [.dat true 1 (ints (logS e s).1)]) := by
  have g0 := GetR_wd s 0 0 rfl (by omega) (by omega)
  have gi := fun i (hi : i < 16) => GetR_wd s (i + 1) (2 + 2 * (i : Int)) (by omega) (by omega) (by omega)
  obtain ⟨n, hn, hn2⟩ := wd_nat s 0
  have hp := PutR_eq (n : Int) (by omega)
  unfold logS
  rw [hn] at g0 ⊢
  rw [show ((n : Int)).toNat = n from rfl]
  by_cases h16 : (16 : Int) < n
  · rw [if_pos h16]
    (refine gives_iff ?_; refine go_func Tryd.f26 rfl rfl (by simp [Tryd.f26]) ?_; dsimp only [codeL, Tryd.f26, scL, sopsL, guardL, dstAt, loopKey])
    (repeat (first
    | (apply is_ok; (case hw => simp [g0, h16]); (case he => simp [g0, h16]; exact is_rfl))
    | (apply op_no; (case hw => simp [g0, h16]))
    | refine op_nil ?_ | refine next_normal ?_ | refine go_seq ?_ | refine go_region ?_ | refine go_skip ?_ | refine go_block ?_ | refine inb_normal ?_
    | (apply go_yes; (case hc => simp [g0, h16])) | (apply go_no; (case hc => simp [g0, h16]))
    | refine go_exit ?_ | refine next_exit ?_ | refine inb_here ?_ | refine inb_past (by decide) ?_ | refine go_ret ?_ | refine next_ret ?_ | refine inb_ret ?_))
    (apply ends_ok; (case h1 => simp; exact is_rfl); (case h2 => simp; exact is_rfl))
    simp
  rw [if_neg h16]
  generalize hR : (if okK e s n then (logK s n, decide (zeroFrom s (2 * n + 2))) else ([], false)) = R
  (refine gives_iff ?_; refine go_func Tryd.f26 rfl rfl (by simp [Tryd.f26]) ?_; dsimp only [codeL, Tryd.f26, scL, sopsL, guardL, dstAt, loopKey])
  (repeat (first
    | (apply is_ok; (case hw => simp [g0, h16, hp]); (case he => simp [g0, h16, hp]; exact is_rfl))
    | (apply op_no; (case hw => simp [g0, h16, hp]))
    | refine op_nil ?_ | refine next_normal ?_ | refine go_seq ?_ | refine go_region ?_ | refine go_skip ?_ | refine go_block ?_ | refine inb_normal ?_
    | (apply go_yes; (case hc => simp [g0, h16, hp])) | (apply go_no; (case hc => simp [g0, h16, hp]))
    | refine go_exit ?_ | refine next_exit ?_ | refine inb_here ?_ | refine inb_past (by decide) ?_ | refine go_ret ?_ | refine next_ret ?_ | refine inb_ret ?_))
  refine go_count n (fun i => [(0, .str s), (1, .int .i64 e), (6, .int .i64 n), (9, .str (hdrK s i)), (10, .own 0 i 0 i), (11, .int .i64 i)])
    (fun i => [.dat true 1 (ints (logK s i))]) (fun i => okK e s i = true) (by simp [logK, hdrK, hn]) rfl fun i hi hI => ?_
  have hll := logK_length s i
  by_cases hlt : i < n
  · have hg := gi i (by omega)
    have hw : IntKind.i64.wrap ((i : Int) + 1) = (i : Int) + 1 := wrap_id (by omega) (by omega)
    have hw2 : IntKind.i64.wrap (2 * (i : Int)) = 2 * (i : Int) := wrap_id (by omega) (by omega)
    have hw3 : IntKind.i64.wrap (2 + 2 * (i : Int)) = 2 + 2 * (i : Int) := wrap_id (by omega) (by omega)
    have hls := logK_succ s i
    have hhs := hdrK_succ s i
    have hhl : (hdrK s i).length + 2 ≤ room := by rw [hdrK_take (by omega), List.length_take]; unfold room; omega
    obtain ⟨x, hx, hx2⟩ := wd_nat s (i + 1)
    have hpx := PutR_eq (x : Int) (by omega)
    have hok : okK e s (i + 1) = decide (lastK s i < wd s (i + 1) ∧ 18 ≤ wd s (i + 1) ∧ wd s (i + 1) < e) := by rw [okK, hI]; simp
    have hno := @okK_no e s n i
    have r1 : (i + 1) * 8 ≤ room := by unfold room; omega
    have r2 : i + 1 ≤ room := by unfold room; omega
    rw [hls, hhs]
    rw [hx] at hok hg ⊢
    generalize hdrK s i = D at hhl
    by_cases h1 : 18 ≤ (x : Int)
    case neg =>
      have h1' : ((x : Int) < 18) := by omega
      rw [hno (by rw [hok]; exact decide_eq_false fun h => h1 h.2.1) hlt] at hR
      subst hR
      (repeat (first
    | (apply is_ok; (case hw => simp [hlt, hg, hw2, hw3, h1', hll]); (case he => simp [hlt, hg, hw2, hw3, h1', hll]; exact is_rfl))
    | (apply op_no; (case hw => simp [hlt, hg, hw2, hw3, h1', hll]))
    | refine op_nil ?_ | refine next_normal ?_ | refine go_seq ?_ | refine go_region ?_ | refine go_skip ?_ | refine go_block ?_ | refine inb_normal ?_
    | (apply go_yes; (case hc => simp [hlt, hg, hw2, hw3, h1', hll])) | (apply go_no; (case hc => simp [hlt, hg, hw2, hw3, h1', hll]))
    | refine go_exit ?_ | refine next_exit ?_ | refine inb_here ?_ | refine inb_past (by decide) ?_ | refine go_ret ?_ | refine next_ret ?_ | refine inb_ret ?_))
      (apply ends_ok; (case h1 => simp; exact is_rfl); (case h2 => simp; exact is_rfl))
      simp
    have h1' : ¬ ((x : Int) < 18) := by omega
    by_cases h2 : (x : Int) < e
    case neg =>
      have h2' : e ≤ (x : Int) := by omega
      rw [hno (by rw [hok]; exact decide_eq_false fun h => h2 h.2.2) hlt] at hR
      subst hR
      (repeat (first
    | (apply is_ok; (case hw => simp [hlt, hg, hw2, hw3, h1', h2', hll]); (case he => simp [hlt, hg, hw2, hw3, h1', h2', hll]; exact is_rfl))
    | (apply op_no; (case hw => simp [hlt, hg, hw2, hw3, h1', h2', hll]))
    | refine op_nil ?_ | refine next_normal ?_ | refine go_seq ?_ | refine go_region ?_ | refine go_skip ?_ | refine go_block ?_ | refine inb_normal ?_
    | (apply go_yes; (case hc => simp [hlt, hg, hw2, hw3, h1', h2', hll])) | (apply go_no; (case hc => simp [hlt, hg, hw2, hw3, h1', h2', hll]))
    | refine go_exit ?_ | refine next_exit ?_ | refine inb_here ?_ | refine inb_past (by decide) ?_ | refine go_ret ?_ | refine next_ret ?_ | refine inb_ret ?_))
      (apply ends_ok; (case h1 => simp; exact is_rfl); (case h2 => simp; exact is_rfl))
      simp
    have h2' : ¬ e ≤ (x : Int) := by omega
    cases i with
    | zero =>
      have hl : lastK s 0 < x := by simp [lastK]; omega
      have hltI : (0 : Int) < (n : Int) := by omega
      rw [show (2 + 2 * ((0 : Nat) : Int)) = 2 from rfl] at hg
      generalize logK s 0 = K at hll
      (repeat (first
    | (apply is_ok; (case hw => simp [hltI, hlt, hg, hw2, hw3, h1', h2', hll, hpx, r1, r2, hhl]); (case he => simp [hltI, hlt, hg, hw2, hw3, h1', h2', hll, hpx, r1, r2, hhl]; exact is_rfl))
    | (apply op_no; (case hw => simp [hltI, hlt, hg, hw2, hw3, h1', h2', hll, hpx, r1, r2, hhl]))
    | refine op_nil ?_ | refine next_normal ?_ | refine go_seq ?_ | refine go_region ?_ | refine go_skip ?_ | refine go_block ?_ | refine inb_normal ?_
    | (apply go_yes; (case hc => simp [hltI, hlt, hg, hw2, hw3, h1', h2', hll, hpx, r1, r2, hhl])) | (apply go_no; (case hc => simp [hltI, hlt, hg, hw2, hw3, h1', h2', hll, hpx, r1, r2, hhl]))
    | refine go_exit ?_ | refine next_exit ?_ | refine inb_here ?_ | refine inb_past (by decide) ?_ | refine go_ret ?_ | refine next_ret ?_ | refine inb_ret ?_))
      exact ⟨hlt, by simp [hw], by rw [hok]; exact decide_eq_true ⟨hl, h1, h2⟩⟩
    | succ i =>
      have hl : lastK s (i + 1) = wd s (i + 1) := by simp [lastK]
      have hgt : (logK s (i + 1))[i]? = some (wd s (i + 1)) := by simp [logK]
      rw [hl] at hok
      generalize wd s (i + 1) = k at hok hgt
      have a1 : (0 : Int) < (i : Int) + 1 := by omega
      have hltI : (i : Int) + 1 < (n : Int) := by omega
      have hcast : ((i + 1 : Nat) : Int) = (i : Int) + 1 := by omega
      rw [hcast] at hg hw hw2 hw3
      have a2 : IntKind.i64.wrap ((i : Int) + 1 - 1) = i := by rw [wrap_id (by omega) (by omega)]; omega
      have a3 : IntKind.i64.wrap (i : Int) = i := wrap_id (by omega) (by omega)
      generalize logK s (i + 1) = K at hll hgt
      obtain ⟨hK1, hgt2⟩ := List.getElem?_eq_some_iff.1 hgt
      by_cases h3 : k < x
      · have h3' : ¬ ((x : Int) ≤ k) := by omega
        (repeat (first
    | (apply is_ok; (case hw => simp [hltI, hlt, hg, hw2, hw3, h1', h2', a1, a2, a3, h3', hll, hgt, hgt2, hpx, r1, r2, hhl]); (case he => simp [hltI, hlt, hg, hw2, hw3, h1', h2', a1, a2, a3, h3', hll, hgt, hgt2, hpx, r1, r2, hhl]; exact is_rfl))
    | (apply op_no; (case hw => simp [hltI, hlt, hg, hw2, hw3, h1', h2', a1, a2, a3, h3', hll, hgt, hgt2, hpx, r1, r2, hhl]))
    | refine op_nil ?_ | refine next_normal ?_ | refine go_seq ?_ | refine go_region ?_ | refine go_skip ?_ | refine go_block ?_ | refine inb_normal ?_
    | (apply go_yes; (case hc => simp [hltI, hlt, hg, hw2, hw3, h1', h2', a1, a2, a3, h3', hll, hgt, hgt2, hpx, r1, r2, hhl])) | (apply go_no; (case hc => simp [hltI, hlt, hg, hw2, hw3, h1', h2', a1, a2, a3, h3', hll, hgt, hgt2, hpx, r1, r2, hhl]))
    | refine go_exit ?_ | refine next_exit ?_ | refine inb_here ?_ | refine inb_past (by decide) ?_ | refine go_ret ?_ | refine next_ret ?_ | refine inb_ret ?_))
        exact ⟨hlt, by simp [hw], by rw [hok]; exact decide_eq_true ⟨h3, h1, h2⟩⟩
      · have h3' : ((x : Int) ≤ k) := by omega
        rw [hno (by rw [hok]; exact decide_eq_false fun h => h3 h.1) hlt] at hR
        subst hR
        (repeat (first
    | (apply is_ok; (case hw => simp [hltI, hlt, hg, hw2, hw3, h1', h2', a1, a2, a3, h3', hll, hgt, hgt2]); (case he => simp [hltI, hlt, hg, hw2, hw3, h1', h2', a1, a2, a3, h3', hll, hgt, hgt2]; exact is_rfl))
    | (apply op_no; (case hw => simp [hltI, hlt, hg, hw2, hw3, h1', h2', a1, a2, a3, h3', hll, hgt, hgt2]))
    | refine op_nil ?_ | refine next_normal ?_ | refine go_seq ?_ | refine go_region ?_ | refine go_skip ?_ | refine go_block ?_ | refine inb_normal ?_
    | (apply go_yes; (case hc => simp [hltI, hlt, hg, hw2, hw3, h1', h2', a1, a2, a3, h3', hll, hgt, hgt2])) | (apply go_no; (case hc => simp [hltI, hlt, hg, hw2, hw3, h1', h2', a1, a2, a3, h3', hll, hgt, hgt2]))
    | refine go_exit ?_ | refine next_exit ?_ | refine inb_here ?_ | refine inb_past (by decide) ?_ | refine go_ret ?_ | refine next_ret ?_ | refine inb_ret ?_))
        (apply ends_ok; (case h1 => simp; exact is_rfl); (case h2 => simp; exact is_rfl))
        simp
  · have hin : i = n := by omega
    subst hin
    rw [hI] at hR
    simp only [if_true] at hR
    subst hR
    have hz := zeros37_eq (hdrK s i) (by rw [hdrK_take (by omega), List.length_take]; omega)
    have hz2 := @hdrK_pad s i hs (by omega)
    generalize padS (hdrK s i) = p at hz hz2
    have hz3 : (s == p) = decide (zeroFrom s (2 * i + 2)) := by
      rw [Bool.eq_iff_iff, decide_eq_true_iff, beq_iff_eq]
      exact hz2
    rw [← hz3]
    (repeat (first
    | (apply is_ok; (case hw => simp [hlt, hz]); (case he => simp [hlt, hz]; exact is_rfl))
    | (apply op_no; (case hw => simp [hlt, hz]))
    | refine op_nil ?_ | refine next_normal ?_ | refine go_seq ?_ | refine go_region ?_ | refine go_skip ?_ | refine go_block ?_ | refine inb_normal ?_
    | (apply go_yes; (case hc => simp [hlt, hz])) | (apply go_no; (case hc => simp [hlt, hz]))
    | refine go_exit ?_ | refine next_exit ?_ | refine inb_here ?_ | refine inb_past (by decide) ?_ | refine go_ret ?_ | refine next_ret ?_ | refine inb_ret ?_))
    (apply ends_ok; (case h1 => simp; exact is_rfl); (case h2 => simp; exact is_rfl))
    simp [hll]
end Go.Abs

namespace Go.Abs
open Go.Proofs
set_option maxRecDepth 100000
set_option linter.unusedSimpArgs false
set_option linter.unusedVariables false

/-- Is none of the first n sectors of the log bad? -/
def okB (B : List Int) : Nat → Bool
  | 0 => true
  | i + 1 => okB B i && decide ((2 + (i : Int)) ∉ B)
theorem okB_no {B : List Int} : ∀ {n i : Nat}, okB B (i + 1) = false → i < n → okB B n = false
  | 0, i, h, hi => by omega
  | n + 1, i, h, hi => by
    by_cases h1 : i = n
    · subst h1; exact h
    · rw [okB, okB_no h (by omega)]; rfl
def recW (S : List (List UInt8)) (ks : List Int) (n : Nat) : List (Int × List UInt8) := (List.range n).map fun i => (ks.getD i 0, S.getD (2 + i) [])
theorem recW_succ (S : List (List UInt8)) (ks : List Int) (n : Nat) : recW S ks (n + 1) = recW S ks n ++ [(ks.getD n 0, S.getD (2 + n) [])] := by simp [recW, List.range_succ]
theorem recW_length (S : List (List UInt8)) (ks : List Int) (n : Nat) : (recW S ks n).length = n := by simp [recW]
/-- The writes that complete a transaction. -/
def recS (S : List (List UInt8)) (B : List Int) : List (Int × List UInt8) × Int :=
  if VolP S B then if (1 : Int) ∈ B then ([], 21) else
    if (logS (S.length - swapW S) (S.getD 1 [])).2 = true then
      if (logS (S.length - swapW S) (S.getD 1 [])).1.length = 0 then ([], 0) else
        if okB B (logS (S.length - swapW S) (S.getD 1 [])).1.length = true then (recW S (logS (S.length - swapW S) (S.getD 1 [])).1 (logS (S.length - swapW S) (S.getD 1 [])).1.length ++ [(1, padS [])], 0) else ([], 21)
    else ([], 9)
  else ([], 9)
theorem logS_length (e : Int) (s : List UInt8) : (logS e s).1.length ≤ 16 := by
  unfold logS
  obtain ⟨n, hn, _⟩ := wd_nat s 0
  rw [hn]
  split
  · simp
  · split
    · rw [logK_length]; omega
    · simp

theorem Recover_eq (S : List (List UInt8)) (B : List Int) (hB : B.length ≤ maxLen) :
    bodyW DC 9 [drv S B] [] = some (.tuple [.own 0 (recS S B).1.length 0 (recS S B).1.length, .int .i64 (recS S B).2], [.dat true 2 ((recS S B).1.map wrV)]) := by
  obtain ⟨w, hs, hw⟩ := swapping_eq S B hB
  unfold recS
  by_cases hv : VolP S B
  case neg =>
    rw [decide_eq_false hv] at hs
    rw [if_neg hv]
    (refine gives_iff ?_; refine go_func Tryd.f9 rfl rfl (by simp [Tryd.f9]) ?_; dsimp only [codeL, Tryd.f9, scL, sopsL, guardL, dstAt, loopKey])
    (repeat (first
    | (apply is_ok; (case hw => simp [hs]); (case he => simp [hs]; exact is_rfl))
    | (apply op_no; (case hw => simp [hs]))
    | refine op_nil ?_ | refine next_normal ?_ | refine go_seq ?_ | refine go_region ?_ | refine go_skip ?_ | refine go_block ?_ | refine inb_normal ?_
    | (apply go_yes; (case hc => simp [hs])) | (apply go_no; (case hc => simp [hs]))
    | refine go_exit ?_ | refine next_exit ?_ | refine inb_here ?_ | refine inb_past (by decide) ?_ | refine go_ret ?_ | refine next_ret ?_ | refine inb_ret ?_))
    (apply ends_ok; (case h1 => simp; exact is_rfl); (case h2 => simp; exact is_rfl))
    simp
  rw [if_pos hv]
  rw [decide_eq_true hv] at hs
  have hb := vol_bounds hv
  have hR := Read_eq S B hB
  have hR1 := hR 1
  by_cases h1 : (1 : Int) ∈ B
  · have e : readS S B 1 = ([], 21) := by unfold readS; rw [if_pos (by omega), if_pos h1]
    rw [e] at hR1
    rw [if_pos h1]
    (refine gives_iff ?_; refine go_func Tryd.f9 rfl rfl (by simp [Tryd.f9]) ?_; dsimp only [codeL, Tryd.f9, scL, sopsL, guardL, dstAt, loopKey])
    (repeat (first
    | (apply is_ok; (case hw => simp [hs, hR1]); (case he => simp [hs, hR1]; exact is_rfl))
    | (apply op_no; (case hw => simp [hs, hR1]))
    | refine op_nil ?_ | refine next_normal ?_ | refine go_seq ?_ | refine go_region ?_ | refine go_skip ?_ | refine go_block ?_ | refine inb_normal ?_
    | (apply go_yes; (case hc => simp [hs, hR1])) | (apply go_no; (case hc => simp [hs, hR1]))
    | refine go_exit ?_ | refine next_exit ?_ | refine inb_here ?_ | refine inb_past (by decide) ?_ | refine go_ret ?_ | refine next_ret ?_ | refine inb_ret ?_))
    (apply ends_ok; (case h1 => simp; exact is_rfl); (case h2 => simp; exact is_rfl))
    simp
  rw [if_neg h1]
  have e : readS S B 1 = (S.getD 1 [], 0) := by unfold readS; rw [if_pos (by omega), if_neg h1]; rfl
  rw [e] at hR1
  have hL := logged_eq S B hB hv (S.getD 1 []) (by rw [getD_at (by omega)]; exact hv.1.2.2.1 _ (List.getElem_mem _))
  have hL2 := logS_length (S.length - swapW S) (S.getD 1 [])
  generalize S.getD 1 [] = s at hR1 hL hL2 ⊢
  generalize logS (S.length - swapW S) s = p at hL hL2 ⊢
  obtain ⟨ks, ok⟩ := p
  dsimp only at hL hL2 ⊢
  cases ok with
  | false =>
    (refine gives_iff ?_; refine go_func Tryd.f9 rfl rfl (by simp [Tryd.f9]) ?_; dsimp only [codeL, Tryd.f9, scL, sopsL, guardL, dstAt, loopKey])
    (repeat (first
    | (apply is_ok; (case hw => simp [hs, hR1, hL]); (case he => simp [hs, hR1, hL]; exact is_rfl))
    | (apply op_no; (case hw => simp [hs, hR1, hL]))
    | refine op_nil ?_ | refine next_normal ?_ | refine go_seq ?_ | refine go_region ?_ | refine go_skip ?_ | refine go_block ?_ | refine inb_normal ?_
    | (apply go_yes; (case hc => simp [hs, hR1, hL])) | (apply go_no; (case hc => simp [hs, hR1, hL]))
    | refine go_exit ?_ | refine next_exit ?_ | refine inb_here ?_ | refine inb_past (by decide) ?_ | refine go_ret ?_ | refine next_ret ?_ | refine inb_ret ?_))
    (apply ends_ok; (case h1 => simp; exact is_rfl); (case h2 => simp; exact is_rfl))
    simp
  | true =>
    rw [if_pos rfl]
    by_cases h0 : ks.length = 0
    · rw [if_pos h0]
      (refine gives_iff ?_; refine go_func Tryd.f9 rfl rfl (by simp [Tryd.f9]) ?_; dsimp only [codeL, Tryd.f9, scL, sopsL, guardL, dstAt, loopKey])
      (repeat (first
    | (apply is_ok; (case hw => simp [hs, hR1, hL, h0]); (case he => simp [hs, hR1, hL, h0]; exact is_rfl))
    | (apply op_no; (case hw => simp [hs, hR1, hL, h0]))
    | refine op_nil ?_ | refine next_normal ?_ | refine go_seq ?_ | refine go_region ?_ | refine go_skip ?_ | refine go_block ?_ | refine inb_normal ?_
    | (apply go_yes; (case hc => simp [hs, hR1, hL, h0])) | (apply go_no; (case hc => simp [hs, hR1, hL, h0]))
    | refine go_exit ?_ | refine next_exit ?_ | refine inb_here ?_ | refine inb_past (by decide) ?_ | refine go_ret ?_ | refine next_ret ?_ | refine inb_ret ?_))
      (apply ends_ok; (case h1 => simp; exact is_rfl); (case h2 => simp; exact is_rfl))
      simp
    rw [if_neg h0]
    generalize hRR : (if okB B ks.length = true then (recW S ks ks.length ++ [(1, padS [])], (0 : Int)) else ([], 21)) = R
    have hbl := blank_pad
    (refine gives_iff ?_; refine go_func Tryd.f9 rfl rfl (by simp [Tryd.f9]) ?_; dsimp only [codeL, Tryd.f9, scL, sopsL, guardL, dstAt, loopKey])
    (repeat (first
    | (apply is_ok; (case hw => simp [hs, hR1, hL, h0]); (case he => simp [hs, hR1, hL, h0]; exact is_rfl))
    | (apply op_no; (case hw => simp [hs, hR1, hL, h0]))
    | refine op_nil ?_ | refine next_normal ?_ | refine go_seq ?_ | refine go_region ?_ | refine go_skip ?_ | refine go_block ?_ | refine inb_normal ?_
    | (apply go_yes; (case hc => simp [hs, hR1, hL, h0])) | (apply go_no; (case hc => simp [hs, hR1, hL, h0]))
    | refine go_exit ?_ | refine next_exit ?_ | refine inb_here ?_ | refine inb_past (by decide) ?_ | refine go_ret ?_ | refine next_ret ?_ | refine inb_ret ?_))
    refine go_count ks.length (fun i => [(1, .ptr 0 1 0 0), (10, .own 1 i 0 i), (41, .own 2 ks.length 0 ks.length), (42, .int .i64 ks.length), (43, .int .i64 i)])
      (fun i => [.box (drv S B), .dat true 2 ((recW S ks i).map wrV), .dat true 1 (ints ks)]) (fun i => okB B i = true) (by simp [recW]) rfl fun i hi hI => ?_
    have hll := recW_length S ks i
    by_cases hlt : i < ks.length
    · have hw1 : IntKind.i64.wrap ((i : Int) + 1) = (i : Int) + 1 := wrap_id (by omega) (by omega)
      have hw2 : IntKind.i64.wrap (2 + (i : Int)) = 2 + (i : Int) := wrap_id (by omega) (by omega)
      have hRi := hR (2 + (i : Int))
      have hok : okB B (i + 1) = decide ((2 + (i : Int)) ∉ B) := by rw [okB, hI]; simp
      have hno := @okB_no B ks.length i
      by_cases h2 : (2 + (i : Int)) ∈ B
      · have e : readS S B (2 + (i : Int)) = ([], 21) := by unfold readS; rw [if_pos (by omega), if_pos h2]
        rw [e] at hRi
        rw [hno (by rw [hok]; simp [h2]) hlt] at hRR
        subst hRR
        (repeat (first
    | (apply is_ok; (case hw => simp [hlt, hw2, hRi, hll]); (case he => simp [hlt, hw2, hRi, hll]; exact is_rfl))
    | (apply op_no; (case hw => simp [hlt, hw2, hRi, hll]))
    | refine op_nil ?_ | refine next_normal ?_ | refine go_seq ?_ | refine go_region ?_ | refine go_skip ?_ | refine go_block ?_ | refine inb_normal ?_
    | (apply go_yes; (case hc => simp [hlt, hw2, hRi, hll])) | (apply go_no; (case hc => simp [hlt, hw2, hRi, hll]))
    | refine go_exit ?_ | refine next_exit ?_ | refine inb_here ?_ | refine inb_past (by decide) ?_ | refine go_ret ?_ | refine next_ret ?_ | refine inb_ret ?_))
        (apply ends_ok; (case h1 => simp; exact is_rfl); (case h2 => simp; exact is_rfl))
        simp
      · have e : readS S B (2 + (i : Int)) = (S.getD (2 + i) [], 0) := by unfold readS; rw [if_pos (by omega), if_neg h2]; rfl
        rw [e] at hRi
        rw [recW_succ, getD_at hlt]
        generalize S.getD (2 + i) [] = t at hRi
        generalize recW S ks i = W at hll
        have r1 : (i + 1) * 24 ≤ room := by unfold room; omega
        have r2 : i + 1 ≤ room := by unfold room; omega
        (repeat (first
    | (apply is_ok; (case hw => simp [hlt, hw2, hRi, hll, r1, r2]); (case he => simp [hlt, hw2, hRi, hll, r1, r2]; exact is_rfl))
    | (apply op_no; (case hw => simp [hlt, hw2, hRi, hll, r1, r2]))
    | refine op_nil ?_ | refine next_normal ?_ | refine go_seq ?_ | refine go_region ?_ | refine go_skip ?_ | refine go_block ?_ | refine inb_normal ?_
    | (apply go_yes; (case hc => simp [hlt, hw2, hRi, hll, r1, r2])) | (apply go_no; (case hc => simp [hlt, hw2, hRi, hll, r1, r2]))
    | refine go_exit ?_ | refine next_exit ?_ | refine inb_here ?_ | refine inb_past (by decide) ?_ | refine go_ret ?_ | refine next_ret ?_ | refine inb_ret ?_))
        exact ⟨hlt, by simp [hw1], by rw [hok]; simp [h2]⟩
    · have hin : i = ks.length := by omega
      subst hin
      rw [hI, if_pos rfl] at hRR
      subst hRR
      generalize padS [] = zz at hbl
      generalize recW S ks ks.length = W at hll
      have r1 : (ks.length + 1) * 24 ≤ room := by unfold room; omega
      have r2 : ks.length + 1 ≤ room := by unfold room; omega
      (repeat (first
    | (apply is_ok; (case hw => simp [hlt, hbl, hll, r1, r2]); (case he => simp [hlt, hbl, hll, r1, r2]; exact is_rfl))
    | (apply op_no; (case hw => simp [hlt, hbl, hll, r1, r2]))
    | refine op_nil ?_ | refine next_normal ?_ | refine go_seq ?_ | refine go_region ?_ | refine go_skip ?_ | refine go_block ?_ | refine inb_normal ?_
    | (apply go_yes; (case hc => simp [hlt, hbl, hll, r1, r2])) | (apply go_no; (case hc => simp [hlt, hbl, hll, r1, r2]))
    | refine go_exit ?_ | refine next_exit ?_ | refine inb_here ?_ | refine inb_past (by decide) ?_ | refine go_ret ?_ | refine next_ret ?_ | refine inb_ret ?_))
      (apply ends_ok; (case h1 => simp; exact is_rfl); (case h2 => simp; exact is_rfl))
      simp [hll]

theorem RecoverR_eq (S : List (List UInt8)) (B : List Int) (hB : B.length ≤ maxLen) :
    bodyW DC 10 [drv S B] [] = some (.tuple [.own 0 (recS S B).1.length 0 (recS S B).1.length, .int .i64 (recS S B).2], [.dat true 2 ((recS S B).1.map wrV)]) := by
  have hs := LayoutR_eq S B hB
  unfold recS
  by_cases hv : VolP S B
  case neg =>
    rw [layV_no hv] at hs
    rw [if_neg hv]
    (refine gives_iff ?_; refine go_func Tryd.f10 rfl rfl (by simp [Tryd.f10]) ?_; dsimp only [codeL, Tryd.f10, scL, sopsL, guardL, dstAt, loopKey])
    (repeat (first
    | (apply is_ok; (case hw => simp [hs]); (case he => simp [hs]; exact is_rfl))
    | (apply op_no; (case hw => simp [hs]))
    | refine op_nil ?_ | refine next_normal ?_ | refine go_seq ?_ | refine go_region ?_ | refine go_skip ?_ | refine go_block ?_ | refine inb_normal ?_
    | (apply go_yes; (case hc => simp [hs])) | (apply go_no; (case hc => simp [hs]))
    | refine go_exit ?_ | refine next_exit ?_ | refine inb_here ?_ | refine inb_past (by decide) ?_ | refine go_ret ?_ | refine next_ret ?_ | refine inb_ret ?_))
    (apply ends_ok; (case h1 => simp; exact is_rfl); (case h2 => simp; exact is_rfl))
    simp
  rw [if_pos hv]
  rw [layV_yes hv] at hs
  have hb := vol_bounds hv
  have hR := bad_eq S B hB
  have hR1 := hR 1
  by_cases h1 : (1 : Int) ∈ B
  · rw [decide_eq_true h1] at hR1
    rw [if_pos h1]
    (refine gives_iff ?_; refine go_func Tryd.f10 rfl rfl (by simp [Tryd.f10]) ?_; dsimp only [codeL, Tryd.f10, scL, sopsL, guardL, dstAt, loopKey])
    (repeat (first
    | (apply is_ok; (case hw => simp [hs, hR1]); (case he => simp [hs, hR1]; exact is_rfl))
    | (apply op_no; (case hw => simp [hs, hR1]))
    | refine op_nil ?_ | refine next_normal ?_ | refine go_seq ?_ | refine go_region ?_ | refine go_skip ?_ | refine go_block ?_ | refine inb_normal ?_
    | (apply go_yes; (case hc => simp [hs, hR1])) | (apply go_no; (case hc => simp [hs, hR1]))
    | refine go_exit ?_ | refine next_exit ?_ | refine inb_here ?_ | refine inb_past (by decide) ?_ | refine go_ret ?_ | refine next_ret ?_ | refine inb_ret ?_))
    (apply ends_ok; (case h1 => simp; exact is_rfl); (case h2 => simp; exact is_rfl))
    simp
  rw [if_neg h1]
  rw [decide_eq_false h1] at hR1
  have hl1 : 1 < S.length := by omega
  have hL := sectors37_eq (S.length - swapW S) (S.getD 1 []) (by rw [getD_at (by omega)]; exact hv.1.2.2.1 _ (List.getElem_mem _))
  have hL2 := logS_length (S.length - swapW S) (S.getD 1 [])
  have hS1 : S[1]? = some (S.getD 1 []) := by rw [getD_at (by omega), List.getElem?_eq_getElem (by omega)]
  have hS1' : ∀ h, S[1]'h = S.getD 1 [] := fun h => by rw [getD_at (by omega)]
  generalize S.getD 1 [] = s at hL hL2 hS1 hS1' ⊢
  generalize hN : (S.length : Int) - swapW S = n at hs hL hL2 ⊢
  generalize logS n s = p at hL hL2 ⊢
  obtain ⟨ks, ok⟩ := p
  dsimp only at hL hL2 ⊢
  cases ok with
  | false =>
    (refine gives_iff ?_; refine go_func Tryd.f10 rfl rfl (by simp [Tryd.f10]) ?_; dsimp only [codeL, Tryd.f10, scL, sopsL, guardL, dstAt, loopKey])
    (repeat (first
    | (apply is_ok; (case hw => simp [hs, hR1, hL, hS1, hS1', hl1]); (case he => simp [hs, hR1, hL, hS1, hS1', hl1]; exact is_rfl))
    | (apply op_no; (case hw => simp [hs, hR1, hL, hS1, hS1', hl1]))
    | refine op_nil ?_ | refine next_normal ?_ | refine go_seq ?_ | refine go_region ?_ | refine go_skip ?_ | refine go_block ?_ | refine inb_normal ?_
    | (apply go_yes; (case hc => simp [hs, hR1, hL, hS1, hS1', hl1])) | (apply go_no; (case hc => simp [hs, hR1, hL, hS1, hS1', hl1]))
    | refine go_exit ?_ | refine next_exit ?_ | refine inb_here ?_ | refine inb_past (by decide) ?_ | refine go_ret ?_ | refine next_ret ?_ | refine inb_ret ?_))
    (apply ends_ok; (case h1 => simp; exact is_rfl); (case h2 => simp; exact is_rfl))
    simp
  | true =>
    rw [if_pos rfl]
    by_cases h0 : ks.length = 0
    · rw [if_pos h0]
      (refine gives_iff ?_; refine go_func Tryd.f10 rfl rfl (by simp [Tryd.f10]) ?_; dsimp only [codeL, Tryd.f10, scL, sopsL, guardL, dstAt, loopKey])
      (repeat (first
    | (apply is_ok; (case hw => simp [hs, hR1, hL, hS1, hS1', hl1, h0]); (case he => simp [hs, hR1, hL, hS1, hS1', hl1, h0]; exact is_rfl))
    | (apply op_no; (case hw => simp [hs, hR1, hL, hS1, hS1', hl1, h0]))
    | refine op_nil ?_ | refine next_normal ?_ | refine go_seq ?_ | refine go_region ?_ | refine go_skip ?_ | refine go_block ?_ | refine inb_normal ?_
    | (apply go_yes; (case hc => simp [hs, hR1, hL, hS1, hS1', hl1, h0])) | (apply go_no; (case hc => simp [hs, hR1, hL, hS1, hS1', hl1, h0]))
    | refine go_exit ?_ | refine next_exit ?_ | refine inb_here ?_ | refine inb_past (by decide) ?_ | refine go_ret ?_ | refine next_ret ?_ | refine inb_ret ?_))
      (apply ends_ok; (case h1 => simp; exact is_rfl); (case h2 => simp; exact is_rfl))
      simp
    rw [if_neg h0]
    generalize hRR : (if okB B ks.length = true then (recW S ks ks.length ++ [(1, padS [])], (0 : Int)) else ([], 21)) = R
    have hbl := zeros37_eq [] (by simp)
    (refine gives_iff ?_; refine go_func Tryd.f10 rfl rfl (by simp [Tryd.f10]) ?_; dsimp only [codeL, Tryd.f10, scL, sopsL, guardL, dstAt, loopKey])
    (repeat (first
    | (apply is_ok; (case hw => simp [hs, hR1, hL, hS1, hS1', hl1, h0]); (case he => simp [hs, hR1, hL, hS1, hS1', hl1, h0]; exact is_rfl))
    | (apply op_no; (case hw => simp [hs, hR1, hL, hS1, hS1', hl1, h0]))
    | refine op_nil ?_ | refine next_normal ?_ | refine go_seq ?_ | refine go_region ?_ | refine go_skip ?_ | refine go_block ?_ | refine inb_normal ?_
    | (apply go_yes; (case hc => simp [hs, hR1, hL, hS1, hS1', hl1, h0])) | (apply go_no; (case hc => simp [hs, hR1, hL, hS1, hS1', hl1, h0]))
    | refine go_exit ?_ | refine next_exit ?_ | refine inb_here ?_ | refine inb_past (by decide) ?_ | refine go_ret ?_ | refine next_ret ?_ | refine inb_ret ?_))
    refine go_count ks.length (fun i => [(1, .ptr 0 1 0 0), (7, .own 1 ks.length 0 ks.length), (9, .own 2 i 0 i), (10, .int .i64 i)])
      (fun i => [.box (drv S B), .dat true 1 (ints ks), .dat true 2 ((recW S ks i).map wrV)]) (fun i => okB B i = true) (by simp [recW]) rfl fun i hi hI => ?_
    have hll := recW_length S ks i
    by_cases hlt : i < ks.length
    · have hw1 : IntKind.i64.wrap ((i : Int) + 1) = (i : Int) + 1 := wrap_id (by omega) (by omega)
      have hw2 : IntKind.i64.wrap (2 + (i : Int)) = 2 + (i : Int) := wrap_id (by omega) (by omega)
      have hRi := hR (2 + (i : Int))
      have hok : okB B (i + 1) = decide ((2 + (i : Int)) ∉ B) := by rw [okB, hI]; simp
      have hno := @okB_no B ks.length i
      by_cases h2 : (2 + (i : Int)) ∈ B
      · rw [decide_eq_true h2] at hRi
        rw [hno (by rw [hok]; simp [h2]) hlt] at hRR
        subst hRR
        (repeat (first
    | (apply is_ok; (case hw => simp [hlt, hw2, hRi, hll]); (case he => simp [hlt, hw2, hRi, hll]; exact is_rfl))
    | (apply op_no; (case hw => simp [hlt, hw2, hRi, hll]))
    | refine op_nil ?_ | refine next_normal ?_ | refine go_seq ?_ | refine go_region ?_ | refine go_skip ?_ | refine go_block ?_ | refine inb_normal ?_
    | (apply go_yes; (case hc => simp [hlt, hw2, hRi, hll])) | (apply go_no; (case hc => simp [hlt, hw2, hRi, hll]))
    | refine go_exit ?_ | refine next_exit ?_ | refine inb_here ?_ | refine inb_past (by decide) ?_ | refine go_ret ?_ | refine next_ret ?_ | refine inb_ret ?_))
        (apply ends_ok; (case h1 => simp; exact is_rfl); (case h2 => simp; exact is_rfl))
        simp
      · rw [decide_eq_false h2] at hRi
        have hl2 : 2 + i < S.length := by omega
        have c1 : (0 : Int) ≤ 2 + (i : Int) := by omega
        have c2 : (2 + (i : Int)).toNat = 2 + i := by omega
        have hS2 : S[2 + i]? = some (S.getD (2 + i) []) := by rw [getD_at (by omega), List.getElem?_eq_getElem (by omega)]
        have hS2' : ∀ h, S[2 + i]'h = S.getD (2 + i) [] := fun h => by rw [getD_at (by omega)]
        rw [recW_succ, getD_at hlt]
        generalize S.getD (2 + i) [] = t at hS2 hS2'
        generalize recW S ks i = W at hll
        have r1 : (i + 1) * 24 ≤ room := by unfold room; omega
        have r2 : i + 1 ≤ room := by unfold room; omega
        (repeat (first
    | (apply is_ok; (case hw => simp [hlt, hw2, hRi, hll, hl2, c1, c2, hS2, hS2', r1, r2]); (case he => simp [hlt, hw2, hRi, hll, hl2, c1, c2, hS2, hS2', r1, r2]; exact is_rfl))
    | (apply op_no; (case hw => simp [hlt, hw2, hRi, hll, hl2, c1, c2, hS2, hS2', r1, r2]))
    | refine op_nil ?_ | refine next_normal ?_ | refine go_seq ?_ | refine go_region ?_ | refine go_skip ?_ | refine go_block ?_ | refine inb_normal ?_
    | (apply go_yes; (case hc => simp [hlt, hw2, hRi, hll, hl2, c1, c2, hS2, hS2', r1, r2])) | (apply go_no; (case hc => simp [hlt, hw2, hRi, hll, hl2, c1, c2, hS2, hS2', r1, r2]))
    | refine go_exit ?_ | refine next_exit ?_ | refine inb_here ?_ | refine inb_past (by decide) ?_ | refine go_ret ?_ | refine next_ret ?_ | refine inb_ret ?_))
        exact ⟨hlt, by simp [hw1], by rw [hok]; simp [h2]⟩
    · have hin : i = ks.length := by omega
      subst hin
      rw [hI, if_pos rfl] at hRR
      subst hRR
      generalize padS [] = zz at hbl
      generalize recW S ks ks.length = W at hll
      have r1 : (ks.length + 1) * 24 ≤ room := by unfold room; omega
      have r2 : ks.length + 1 ≤ room := by unfold room; omega
      (repeat (first
    | (apply is_ok; (case hw => simp [hlt, hbl, hll, r1, r2]); (case he => simp [hlt, hbl, hll, r1, r2]; exact is_rfl))
    | (apply op_no; (case hw => simp [hlt, hbl, hll, r1, r2]))
    | refine op_nil ?_ | refine next_normal ?_ | refine go_seq ?_ | refine go_region ?_ | refine go_skip ?_ | refine go_block ?_ | refine inb_normal ?_
    | (apply go_yes; (case hc => simp [hlt, hbl, hll, r1, r2])) | (apply go_no; (case hc => simp [hlt, hbl, hll, r1, r2]))
    | refine go_exit ?_ | refine next_exit ?_ | refine inb_here ?_ | refine inb_past (by decide) ?_ | refine go_ret ?_ | refine next_ret ?_ | refine inb_ret ?_))
      (apply ends_ok; (case h1 => simp; exact is_rfl); (case h2 => simp; exact is_rfl))
      simp [hll]
end Go.Abs

namespace Go.Abs
open Go.Proofs
set_option maxRecDepth 100000
set_option linter.unusedSimpArgs false
set_option linter.unusedVariables false

theorem eqw_wr (a b : Int × List UInt8) : binV Tryd.prog .eql 40 (wrV a) (wrV b) = some (.bool (decide (a = b))) ∧ binV Tryd.prog .neq 40 (wrV a) (wrV b) = some (.bool (!decide (a = b))) := by
  have h := (binV_agg (P := Tryd.prog) (t := 40) (d := 10000) rfl (by kernel_rfl) (by kernel_rfl) rfl rfl (eqL_wr a.1 b.1 a.2 b.2))
  have e : (decide (a.1 = b.1) && decide (a.2 = b.2)) = decide (a = b) := by
    rw [Bool.eq_iff_iff]
    simp [Prod.ext_iff]
  rw [e] at h
  exact h
theorem SameW_refl (l : List (Int × List UInt8)) (hl : l.length ≤ 1000000) : bodyW DC 11 [.sl (l.map wrV), .sl (l.map wrV)] [] = some (.bool true, []) := by
  (refine gives_iff ?_; refine go_func Tryd.f11 rfl rfl (by simp [Tryd.f11]) ?_; dsimp only [codeL, Tryd.f11, scL, sopsL, guardL, dstAt, loopKey])
  (repeat (first
    | (apply is_ok; (case hw => simp); (case he => simp; exact is_rfl))
    | (apply op_no; (case hw => simp))
    | refine op_nil ?_ | refine next_normal ?_ | refine go_seq ?_ | refine go_region ?_ | refine go_skip ?_ | refine go_block ?_ | refine inb_normal ?_
    | (apply go_yes; (case hc => simp)) | (apply go_no; (case hc => simp))
    | refine go_exit ?_ | refine next_exit ?_ | refine inb_here ?_ | refine inb_past (by decide) ?_ | refine go_ret ?_ | refine next_ret ?_ | refine inb_ret ?_))
  refine go_count l.length (fun i => [(0, .sl (l.map wrV)), (1, .sl (l.map wrV)), (5, .int .i64 i)]) (fun _ => []) (fun _ => True) (by simp) trivial fun i hi _ => ?_
  by_cases hlt : i < l.length
  · have hw : IntKind.i64.wrap ((i : Int) + 1) = (i : Int) + 1 := wrap_id (by omega) (by omega)
    have gx : l[i]? = some (l[i]'hlt) := List.getElem?_eq_getElem hlt
    generalize hx0 : l[i]'hlt = x at gx
    have he := (eqw_wr x x).2
    simp only [decide_true, Bool.not_true] at he
    (repeat (first
    | (apply is_ok; (case hw => simp [-binV, hlt, gx, hx0, he]); (case he => simp [-binV, hlt, gx, hx0, he]; exact is_rfl))
    | (apply op_no; (case hw => simp [-binV, hlt, gx, hx0, he]))
    | refine op_nil ?_ | refine next_normal ?_ | refine go_seq ?_ | refine go_region ?_ | refine go_skip ?_ | refine go_block ?_ | refine inb_normal ?_
    | (apply go_yes; (case hc => simp [-binV, hlt, gx, hx0, he])) | (apply go_no; (case hc => simp [-binV, hlt, gx, hx0, he]))
    | refine go_exit ?_ | refine next_exit ?_ | refine inb_here ?_ | refine inb_past (by decide) ?_ | refine go_ret ?_ | refine next_ret ?_ | refine inb_ret ?_))
    exact ⟨hlt, by simp [hw], trivial⟩
  · (repeat (first
    | (apply is_ok; (case hw => simp [hlt]); (case he => simp [hlt]; exact is_rfl))
    | (apply op_no; (case hw => simp [hlt]))
    | refine op_nil ?_ | refine next_normal ?_ | refine go_seq ?_ | refine go_region ?_ | refine go_skip ?_ | refine go_block ?_ | refine inb_normal ?_
    | (apply go_yes; (case hc => simp [hlt])) | (apply go_no; (case hc => simp [hlt]))
    | refine go_exit ?_ | refine next_exit ?_ | refine inb_here ?_ | refine inb_past (by decide) ?_ | refine go_ret ?_ | refine next_ret ?_ | refine inb_ret ?_))
    (apply ends_ok; (case h1 => simp; exact is_rfl); (case h2 => simp; exact is_rfl))
    simp

def SmallV (S : List (List UInt8)) (B : List Int) : Prop := S.length ≤ 260 ∧ B.length ≤ 60 ∧ ∀ s ∈ S, s.length ≤ 200
instance (S : List (List UInt8)) (B : List Int) : Decidable (SmallV S B) := by unfold SmallV; infer_instance
theorem small37_eq (S : List (List UInt8)) (B : List Int) : bodyW DC 7 [drv S B] [] = some (.bool (decide (SmallV S B)), []) := by
  unfold SmallV
  (refine gives_iff ?_; refine go_func Tryd.f7 rfl rfl (by simp [Tryd.f7]) ?_; dsimp only [codeL, Tryd.f7, scL, sopsL, guardL, dstAt, loopKey])
  by_cases h1 : S.length ≤ 260
  case neg =>
    have h1' : (260 : Int) < S.length := by omega
    (repeat (first
    | (apply is_ok; (case hw => simp [h1, h1']); (case he => simp [h1, h1']; exact is_rfl))
    | (apply op_no; (case hw => simp [h1, h1']))
    | refine op_nil ?_ | refine next_normal ?_ | refine go_seq ?_ | refine go_region ?_ | refine go_skip ?_ | refine go_block ?_ | refine inb_normal ?_
    | (apply go_yes; (case hc => simp [h1, h1'])) | (apply go_no; (case hc => simp [h1, h1']))
    | refine go_exit ?_ | refine next_exit ?_ | refine inb_here ?_ | refine inb_past (by decide) ?_ | refine go_ret ?_ | refine next_ret ?_ | refine inb_ret ?_))
    (apply ends_ok; (case h1 => simp; exact is_rfl); (case h2 => simp; exact is_rfl))
    simp [h1]
  have h1' : ¬ (260 : Int) < S.length := by omega
  by_cases h2 : B.length ≤ 60
  case neg =>
    have h2' : (60 : Int) < B.length := by omega
    (repeat (first
    | (apply is_ok; (case hw => simp [h1, h1', h2, h2']); (case he => simp [h1, h1', h2, h2']; exact is_rfl))
    | (apply op_no; (case hw => simp [h1, h1', h2, h2']))
    | refine op_nil ?_ | refine next_normal ?_ | refine go_seq ?_ | refine go_region ?_ | refine go_skip ?_ | refine go_block ?_ | refine inb_normal ?_
    | (apply go_yes; (case hc => simp [h1, h1', h2, h2'])) | (apply go_no; (case hc => simp [h1, h1', h2, h2']))
    | refine go_exit ?_ | refine next_exit ?_ | refine inb_here ?_ | refine inb_past (by decide) ?_ | refine go_ret ?_ | refine next_ret ?_ | refine inb_ret ?_))
    (apply ends_ok; (case h1 => simp; exact is_rfl); (case h2 => simp; exact is_rfl))
    simp [h2]
  have h2' : ¬ (60 : Int) < B.length := by omega
  (repeat (first
    | (apply is_ok; (case hw => simp [h1, h1', h2, h2']); (case he => simp [h1, h1', h2, h2']; exact is_rfl))
    | (apply op_no; (case hw => simp [h1, h1', h2, h2']))
    | refine op_nil ?_ | refine next_normal ?_ | refine go_seq ?_ | refine go_region ?_ | refine go_skip ?_ | refine go_block ?_ | refine inb_normal ?_
    | (apply go_yes; (case hc => simp [h1, h1', h2, h2'])) | (apply go_no; (case hc => simp [h1, h1', h2, h2']))
    | refine go_exit ?_ | refine next_exit ?_ | refine inb_here ?_ | refine inb_past (by decide) ?_ | refine go_ret ?_ | refine next_ret ?_ | refine inb_ret ?_))
  refine go_count S.length (fun i => [(16, .sl (strs S)), (17, .int .i64 S.length), (18, .int .i64 i)]) (fun _ => []) (fun i => ∀ j (hj : j < S.length), j < i → (S[j]).length ≤ 200) (by simp) (by simp) fun i hi hI => ?_
  by_cases hlt : i < S.length
  · have hw : IntKind.i64.wrap ((i : Int) + 1) = (i : Int) + 1 := wrap_id (by omega) (by omega)
    have gx : S[i]? = some (S[i]'hlt) := List.getElem?_eq_getElem hlt
    by_cases h3 : (S[i]).length ≤ 200
    · have h3' : ¬ (200 : Int) < (S[i]).length := by omega
      (repeat (first
    | (apply is_ok; (case hw => simp [hlt, gx, h3, h3']); (case he => simp [hlt, gx, h3, h3']; exact is_rfl))
    | (apply op_no; (case hw => simp [hlt, gx, h3, h3']))
    | refine op_nil ?_ | refine next_normal ?_ | refine go_seq ?_ | refine go_region ?_ | refine go_skip ?_ | refine go_block ?_ | refine inb_normal ?_
    | (apply go_yes; (case hc => simp [hlt, gx, h3, h3'])) | (apply go_no; (case hc => simp [hlt, gx, h3, h3']))
    | refine go_exit ?_ | refine next_exit ?_ | refine inb_here ?_ | refine inb_past (by decide) ?_ | refine go_ret ?_ | refine next_ret ?_ | refine inb_ret ?_))
      exact ⟨hlt, by simp [hw], fun j hj hji => by
        by_cases hje : j = i
        · subst hje; exact h3
        · exact hI j hj (by omega)⟩
    · have h3' : (200 : Int) < (S[i]).length := by omega
      (repeat (first
    | (apply is_ok; (case hw => simp [hlt, gx, h3, h3']); (case he => simp [hlt, gx, h3, h3']; exact is_rfl))
    | (apply op_no; (case hw => simp [hlt, gx, h3, h3']))
    | refine op_nil ?_ | refine next_normal ?_ | refine go_seq ?_ | refine go_region ?_ | refine go_skip ?_ | refine go_block ?_ | refine inb_normal ?_
    | (apply go_yes; (case hc => simp [hlt, gx, h3, h3'])) | (apply go_no; (case hc => simp [hlt, gx, h3, h3']))
    | refine go_exit ?_ | refine next_exit ?_ | refine inb_here ?_ | refine inb_past (by decide) ?_ | refine go_ret ?_ | refine next_ret ?_ | refine inb_ret ?_))
      (apply ends_ok; (case h1 => simp; exact is_rfl); (case h2 => simp; exact is_rfl))
      have : ¬ ∀ s ∈ S, s.length ≤ 200 := fun h => h3 (h _ (List.getElem_mem hlt))
      simp [this]
  · (repeat (first
    | (apply is_ok; (case hw => simp [hlt]); (case he => simp [hlt]; exact is_rfl))
    | (apply op_no; (case hw => simp [hlt]))
    | refine op_nil ?_ | refine next_normal ?_ | refine go_seq ?_ | refine go_region ?_ | refine go_skip ?_ | refine go_block ?_ | refine inb_normal ?_
    | (apply go_yes; (case hc => simp [hlt])) | (apply go_no; (case hc => simp [hlt]))
    | refine go_exit ?_ | refine next_exit ?_ | refine inb_here ?_ | refine inb_past (by decide) ?_ | refine go_ret ?_ | refine next_ret ?_ | refine inb_ret ?_))
    (apply ends_ok; (case h1 => simp; exact is_rfl); (case h2 => simp; exact is_rfl))
    have : ∀ s ∈ S, s.length ≤ 200 := fun s hs => by
      obtain ⟨j, hj, rfl⟩ := List.mem_iff_getElem.1 hs
      exact hI j hj (by omega)
    simp [h1, h2]
    exact this

def FewP (l : List (Int × List UInt8)) : Prop := (∀ w ∈ l, w.2.length ≤ 200) ∧ l.length ≤ 60
instance (l : List (Int × List UInt8)) : Decidable (FewP l) := by unfold FewP; infer_instance
theorem few37_eq (l : List (Int × List UInt8)) (hl : l.length ≤ maxLen) : bodyW DC 12 [.sl (l.map wrV)] [] = some (.bool (decide (FewP l)), []) := by
  unfold maxLen at hl
  unfold FewP
  (refine gives_iff ?_; refine go_func Tryd.f12 rfl rfl (by simp [Tryd.f12]) ?_; dsimp only [codeL, Tryd.f12, scL, sopsL, guardL, dstAt, loopKey])
  (repeat (first
    | (apply is_ok; (case hw => simp); (case he => simp; exact is_rfl))
    | (apply op_no; (case hw => simp))
    | refine op_nil ?_ | refine next_normal ?_ | refine go_seq ?_ | refine go_region ?_ | refine go_skip ?_ | refine go_block ?_ | refine inb_normal ?_
    | (apply go_yes; (case hc => simp)) | (apply go_no; (case hc => simp))
    | refine go_exit ?_ | refine next_exit ?_ | refine inb_here ?_ | refine inb_past (by decide) ?_ | refine go_ret ?_ | refine next_ret ?_ | refine inb_ret ?_))
  refine go_count l.length (fun i => [(0, .sl (l.map wrV)), (5, .sl (l.map wrV)), (6, .int .i64 l.length), (7, .int .i64 i)]) (fun _ => []) (fun i => ∀ j (hj : j < l.length), j < i → (l[j]).2.length ≤ 200) (by simp) (by simp) fun i hi hI => ?_
  by_cases hlt : i < l.length
  · have hw : IntKind.i64.wrap ((i : Int) + 1) = (i : Int) + 1 := wrap_id (by omega) (by omega)
    have gx : l[i]? = some (l[i]'hlt) := List.getElem?_eq_getElem hlt
    by_cases h3 : (l[i]).2.length ≤ 200
    · have h3' : ¬ (200 : Int) < (l[i]).2.length := by omega
      (repeat (first
    | (apply is_ok; (case hw => simp [hlt, gx, h3, h3']); (case he => simp [hlt, gx, h3, h3']; exact is_rfl))
    | (apply op_no; (case hw => simp [hlt, gx, h3, h3']))
    | refine op_nil ?_ | refine next_normal ?_ | refine go_seq ?_ | refine go_region ?_ | refine go_skip ?_ | refine go_block ?_ | refine inb_normal ?_
    | (apply go_yes; (case hc => simp [hlt, gx, h3, h3'])) | (apply go_no; (case hc => simp [hlt, gx, h3, h3']))
    | refine go_exit ?_ | refine next_exit ?_ | refine inb_here ?_ | refine inb_past (by decide) ?_ | refine go_ret ?_ | refine next_ret ?_ | refine inb_ret ?_))
      exact ⟨hlt, by simp [hw], fun j hj hji => by
        by_cases hje : j = i
        · subst hje; exact h3
        · exact hI j hj (by omega)⟩
    · have h3' : (200 : Int) < (l[i]).2.length := by omega
      (repeat (first
    | (apply is_ok; (case hw => simp [hlt, gx, h3, h3']); (case he => simp [hlt, gx, h3, h3']; exact is_rfl))
    | (apply op_no; (case hw => simp [hlt, gx, h3, h3']))
    | refine op_nil ?_ | refine next_normal ?_ | refine go_seq ?_ | refine go_region ?_ | refine go_skip ?_ | refine go_block ?_ | refine inb_normal ?_
    | (apply go_yes; (case hc => simp [hlt, gx, h3, h3'])) | (apply go_no; (case hc => simp [hlt, gx, h3, h3']))
    | refine go_exit ?_ | refine next_exit ?_ | refine inb_here ?_ | refine inb_past (by decide) ?_ | refine go_ret ?_ | refine next_ret ?_ | refine inb_ret ?_))
      (apply ends_ok; (case h1 => simp; exact is_rfl); (case h2 => simp; exact is_rfl))
      have : ¬ ∀ w ∈ l, w.2.length ≤ 200 := fun h => h3 (h _ (List.getElem_mem hlt))
      have e : decide (FewP l) = false := decide_eq_false (fun h => this h.1)
      unfold FewP at e
      simp [e]
  · (repeat (first
    | (apply is_ok; (case hw => simp [hlt]); (case he => simp [hlt]; exact is_rfl))
    | (apply op_no; (case hw => simp [hlt]))
    | refine op_nil ?_ | refine next_normal ?_ | refine go_seq ?_ | refine go_region ?_ | refine go_skip ?_ | refine go_block ?_ | refine inb_normal ?_
    | (apply go_yes; (case hc => simp [hlt])) | (apply go_no; (case hc => simp [hlt]))
    | refine go_exit ?_ | refine next_exit ?_ | refine inb_here ?_ | refine inb_past (by decide) ?_ | refine go_ret ?_ | refine next_ret ?_ | refine inb_ret ?_))
    (apply ends_ok; (case h1 => simp; exact is_rfl); (case h2 => simp; exact is_rfl))
    have : ∀ w ∈ l, w.2.length ≤ 200 := fun s hs => by
      obtain ⟨j, hj, rfl⟩ := List.mem_iff_getElem.1 hs
      exact hI j hj (by omega)
    have e : decide ((∀ w ∈ l, w.2.length ≤ 200) ∧ l.length ≤ 60) = decide ((l.length : Int) ≤ 60) := by
      rw [Bool.eq_iff_iff, decide_eq_true_iff, decide_eq_true_iff]
      exact ⟨fun h => by omega, fun h => ⟨this, by omega⟩⟩
    rw [e]
    simp

set_option maxRecDepth 100000 in
theorem alive37_eq : bodyW DC 8 [] [] = some (.bool true, []) := bodyW_iff.2 ⟨3000, by kernel_rfl⟩

theorem recS_length (S : List (List UInt8)) (B : List Int) : (recS S B).1.length ≤ 17 := by
  unfold recS
  have h := logS_length (S.length - swapW S) (S.getD 1 [])
  generalize logS (S.length - swapW S) (S.getD 1 []) = p at h ⊢
  split
  · split
    · simp
    · split
      · split
        · simp
        · split
          · rw [List.length_append, recW_length, List.length_singleton]; omega
          · simp
      · simp
  · simp
theorem VolumeRecovers_eq (S : List (List UInt8)) (B : List Int) (hB : B.length ≤ maxLen) : bodyW DC 3 [drv S B] [] = some (.bool true, []) := by
  have hM := small37_eq S B
  have hA := alive37_eq
  by_cases hs : SmallV S B
  case neg =>
    (refine gives_iff ?_; refine go_func Tryd.f3 rfl rfl (by simp [Tryd.f3]) ?_; dsimp only [codeL, Tryd.f3, scL, sopsL, guardL, dstAt, loopKey])
    (repeat (first
    | (apply is_ok; (case hw => simp [hM, hs, hA]); (case he => simp [hM, hs, hA]; exact is_rfl))
    | (apply op_no; (case hw => simp [hM, hs, hA]))
    | refine op_nil ?_ | refine next_normal ?_ | refine go_seq ?_ | refine go_region ?_ | refine go_skip ?_ | refine go_block ?_ | refine inb_normal ?_
    | (apply go_yes; (case hc => simp [hM, hs, hA])) | (apply go_no; (case hc => simp [hM, hs, hA]))
    | refine go_exit ?_ | refine next_exit ?_ | refine inb_here ?_ | refine inb_past (by decide) ?_ | refine go_ret ?_ | refine next_ret ?_ | refine inb_ret ?_))
    (apply ends_ok; (case h1 => simp; exact is_rfl); (case h2 => simp; exact is_rfl))
    simp
  have hR := Recover_eq S B hB
  have hR' := RecoverR_eq S B hB
  have hl := recS_length S B
  have hW := SameW_refl (recS S B).1 (by omega)
  generalize recS S B = p at hR hR' hW
  (refine gives_iff ?_; refine go_func Tryd.f3 rfl rfl (by simp [Tryd.f3]) ?_; dsimp only [codeL, Tryd.f3, scL, sopsL, guardL, dstAt, loopKey])
  (repeat (first
    | (apply is_ok; (case hw => simp [hM, hs, hA, hR, hR', hW]); (case he => simp [hM, hs, hA, hR, hR', hW]; exact is_rfl))
    | (apply op_no; (case hw => simp [hM, hs, hA, hR, hR', hW]))
    | refine op_nil ?_ | refine next_normal ?_ | refine go_seq ?_ | refine go_region ?_ | refine go_skip ?_ | refine go_block ?_ | refine inb_normal ?_
    | (apply go_yes; (case hc => simp [hM, hs, hA, hR, hR', hW])) | (apply go_no; (case hc => simp [hM, hs, hA, hR, hR', hW]))
    | refine go_exit ?_ | refine next_exit ?_ | refine inb_here ?_ | refine inb_past (by decide) ?_ | refine go_ret ?_ | refine next_ret ?_ | refine inb_ret ?_))
  (apply ends_ok; (case h1 => simp; exact is_rfl); (case h2 => simp; exact is_rfl))
  simp
end Go.Abs

namespace Go.Abs
open Go.Proofs
set_option maxRecDepth 100000
set_option linter.unusedSimpArgs false
set_option linter.unusedVariables false

theorem sorted_perm (l : List Int) : (sorted l).Perm l := by rw [sorted_eq]; exact List.mergeSort_perm ..
theorem sorted_le (l : List Int) : (sorted l).Pairwise (· ≤ ·) := by
  rw [sorted_eq]
  have := List.pairwise_mergeSort (le := fun x y : Int => decide (x ≤ y)) (fun a b c h1 h2 => by simp at *; omega) (fun a b => by simp; omega) l
  exact this.imp fun h => by simpa using h
theorem sorted_nodup {l : List Int} (h : l.Nodup) : (sorted l).Nodup := (sorted_perm l).nodup_iff.2 h
theorem sorted_lt {l : List Int} (h : l.Nodup) : (sorted l).Pairwise (· < ·) :=
  ((sorted_le l).and (sorted_nodup h)).imp fun ⟨h1, h2⟩ => by omega
theorem sorted_self : ∀ {l : List Int}, l.Pairwise (· ≤ ·) → sorted l = l
  | [], _ => rfl
  | a :: l, h => by
    rw [List.pairwise_cons] at h
    rw [sorted, sorted_self h.2]
    exact insI_at a l h.1 [] (fun b hb => by cases hb)
theorem foldl_new : ∀ (B ks : List Int), B.Nodup → (∀ b ∈ B, b ∉ ks) → B.foldl (fun ks n => if n ∈ ks then ks else ks ++ [n]) ks = ks ++ B
  | [], ks, _, _ => by simp
  | b :: B, ks, h, hd => by
    rw [List.nodup_cons] at h
    rw [List.foldl_cons, if_neg (hd b (List.mem_cons_self ..)), foldl_new B _ h.2 fun c hc hk => by
      rw [List.mem_append, List.mem_singleton] at hk
      rcases hk with hk | hk
      · exact hd c (List.mem_cons_of_mem _ hc) hk
      · exact h.1 (hk ▸ hc)]
    simp
theorem worn_self {B : List Int} (h : B.Nodup) : wornK B = B := by
  unfold wornK
  rw [foldl_new B [] h (by simp)]
  rfl
theorem mergeL_fst (l : List (Int × List UInt8)) : (mergeL l).map Prod.fst = sorted (keysL l) := by unfold mergeL; rw [List.map_map]; exact List.map_id _
theorem mergeL_asc (l : List (Int × List UInt8)) : ((mergeL l).map Prod.fst).Pairwise (· < ·) := by rw [mergeL_fst]; exact sorted_lt (keysL_nodup l)
theorem lastD_map (f : Int → List UInt8) (k : Int) : ∀ (ks : List Int) (a : List UInt8), ks.Nodup → k ∈ ks → (ks.map fun k => (k, f k)).foldl (fun a w => if w.1 = k then w.2 else a) a = f k
  | [], _, _, h => by cases h
  | c :: ks, a, hn, h => by
    rw [List.nodup_cons] at hn
    rw [List.map_cons, List.foldl_cons]
    by_cases hc : c = k
    · subst hc
      rw [if_pos rfl, foldl_none]
      intro w hw
      obtain ⟨x, hx, rfl⟩ := List.mem_map.1 hw
      exact fun e => hn.1 (e ▸ hx)
    · exact lastD_map f k ks _ hn.2 (by
        rcases List.mem_cons.1 h with h | h
        · exact absurd h.symm hc
        · exact h)
theorem mergeL_idem (l : List (Int × List UInt8)) : mergeL (mergeL l) = mergeL l := by
  have h1 : keysL (mergeL l) = sorted (keysL l) := by
    unfold keysL
    rw [mergeL_fst, worn_self (sorted_nodup (keysL_nodup l))]
    rfl
  have h2 : sorted (sorted (keysL l)) = sorted (keysL l) := sorted_self (sorted_le _)
  show (sorted (keysL (mergeL l))).map (fun k => (k, lastD (mergeL l) k)) = (sorted (keysL l)).map (fun k => (k, lastD l k))
  rw [h1, h2]
  refine List.map_congr_left fun k hk => ?_
  have : lastD (mergeL l) k = lastD l k := lastD_map (lastD l) k _ [] (sorted_nodup (keysL_nodup l)) hk
  rw [this]
theorem wrongI_sub {n : Int} {l : List (Int × List UInt8)} (h : ∀ w ∈ l, 18 ≤ w.1 ∧ w.1 < n ∧ w.2.length ≤ 128) : wrongI n l = 0 := by
  induction l with
  | nil => rfl
  | cons w l ih =>
    have h1 := h w (List.mem_cons_self ..)
    rw [wrongI, if_pos ⟨h1.1, h1.2.1⟩, if_neg (by omega)]
    exact ih fun w hw => h w (List.mem_cons_of_mem _ hw)
theorem planS_ok {S : List (List UInt8)} {B : List Int} {l : List (Int × List UInt8)} (h : (planS S B l).2 = 0) :
    VolP S B ∧ CleanP S B ∧ wrongI (S.length - swapW S) l = 0 ∧ (mergeL l).length ≤ 16 ∧ planS S B l = (if (mergeL l).length = 0 then ([], 0) else (planL (mergeL l), 0)) := by
  unfold planS at h ⊢
  by_cases hv : VolP S B
  case neg => rw [if_neg hv] at h; cases h
  rw [if_pos hv] at h ⊢
  by_cases hc : CleanP S B
  case neg => rw [if_neg hc] at h; cases h
  rw [if_pos hc] at h ⊢
  by_cases hw : wrongI (S.length - swapW S) l = 0
  case neg => rw [if_neg hw] at h; exact absurd h hw
  rw [if_pos hw] at h ⊢
  by_cases h16 : 16 < (mergeL l).length
  · rw [if_pos h16] at h; cases h
  rw [if_neg h16]
  exact ⟨hv, hc, hw, by omega, rfl⟩
theorem planS_merge {S : List (List UInt8)} {B : List Int} {l : List (Int × List UInt8)} (h : (planS S B l).2 = 0) : planS S B (mergeL l) = planS S B l := by
  obtain ⟨hv, hc, hw, h16, e⟩ := planS_ok h
  rw [e]
  have hw2 : wrongI (S.length - swapW S) (mergeL l) = 0 := wrongI_sub fun w hw' => wrongI_ok hw w (mergeL_sub hw')
  unfold planS
  rw [if_pos hv, if_pos hc, if_pos hw2, mergeL_idem, if_neg (by omega)]

@[simp] theorem hasRoL_wr (l : List (Int × List UInt8)) : hasRoL (l.map wrV) = false := by
  rw [hasRoL_any, List.any_eq_false]
  intro x hx
  obtain ⟨w, _, rfl⟩ := List.mem_map.1 hx
  simp

def foundK (l : List (Int × List UInt8)) (k : Int) : Bool := l.any fun w => w.1 == k
theorem foundK_take {l : List (Int × List UInt8)} {i : Nat} (h : i < l.length) (k : Int) : foundK (l.take (i + 1)) k = (foundK (l.take i) k || (l[i].1 == k)) := by
  unfold foundK
  rw [List.take_succ_eq_append_getElem h, List.any_append]
  simp
theorem foundK_iff {l : List (Int × List UInt8)} {k : Int} : foundK l k = true ↔ ∃ w ∈ l, w.1 = k := by simp [foundK]
theorem planS_length (S : List (List UInt8)) (B : List Int) (l : List (Int × List UInt8)) : (planS S B l).1.length ≤ 34 := by
  have hp : ∀ m : List (Int × List UInt8), (planL m).length = 2 * m.length + 2 := fun m => by
    unfold planL
    rw [List.length_append, List.length_cons, List.length_append, List.length_map]
    simp [logL]
    omega
  have := hp (mergeL l)
  unfold planS
  generalize mergeL l = m at this ⊢
  generalize wrongI (S.length - swapW S) l = e
  split
  · split
    · split
      · split
        · simp
        · split
          · simp
          · show (planL m).length ≤ 34
            omega
      · simp
    · simp
  · simp
theorem writes_of64 {x : V} (h : ArgT Tryd.prog 28 x) : ∃ l : List (Int × List UInt8), x = .sl (l.map wrV) ∧ l.length ≤ maxLen ∧ In64 (l.map Prod.fst) := by
  obtain ⟨n, h1, h2⟩ := h
  rw [show aggT Tryd.prog 28 = some false by kernel_rfl] at h2
  rw [cells_one (Option.some.inj h2).symm] at h1
  obtain ⟨m, es, rfl, h3, h4, h5⟩ := hasT_slice Tryd.underlying28 (cells_ne (n := 2) (by kernel_rfl) (by decide)) h1
  cases h3
  obtain ⟨l, rfl, hp⟩ := map_of (p := fun w => -9223372036854775808 ≤ w.1 ∧ w.1 ≤ 9223372036854775807) (f := wrV) fun x hx => by
    obtain ⟨h6, h7⟩ := h5 x hx
    rw [show aggT Tryd.prog 40 = some true by kernel_rfl] at h6
    obtain ⟨cs, rfl⟩ := cells_some (Option.some.inj h6).symm
    obtain ⟨w, h8, h9⟩ := wr_cells h7
    exact ⟨w, h8, h9⟩
  refine ⟨l, rfl, by simpa using h4, fun x hx => ?_⟩
  obtain ⟨w, hw, rfl⟩ := List.mem_map.1 hx
  exact hp w hw

theorem VolumeWrites_eq (S : List (List UInt8)) (B : List Int) (hB : B.length ≤ maxLen) (l : List (Int × List UInt8)) (hl : l.length ≤ maxLen) (hX : In64 (l.map Prod.fst)) :
    bodyW DC 5 [drv S B, .sl (l.map wrV)] [] = some (.bool true, []) := by
  have hM := small37_eq S B
  have hF := few37_eq l hl
  have hA := alive37_eq
  by_cases hs : SmallV S B
  case neg =>
    (refine gives_iff ?_; refine go_func Tryd.f5 rfl rfl (by simp [Tryd.f5]) ?_; dsimp only [codeL, Tryd.f5, scL, sopsL, guardL, dstAt, loopKey])
    (repeat (first
    | (apply is_ok; (case hw => simp [hM, hF, hs, hA]); (case he => simp [hM, hF, hs, hA]; exact is_rfl))
    | (apply op_no; (case hw => simp [hM, hF, hs, hA]))
    | refine op_nil ?_ | refine next_normal ?_ | refine go_seq ?_ | refine go_region ?_ | refine go_skip ?_ | refine go_block ?_ | refine inb_normal ?_
    | (apply go_yes; (case hc => simp [hM, hF, hs, hA])) | (apply go_no; (case hc => simp [hM, hF, hs, hA]))
    | refine go_exit ?_ | refine next_exit ?_ | refine inb_here ?_ | refine inb_past (by decide) ?_ | refine go_ret ?_ | refine next_ret ?_ | refine inb_ret ?_))
    (apply ends_ok; (case h1 => simp; exact is_rfl); (case h2 => simp; exact is_rfl))
    simp
  by_cases hf : FewP l
  case neg =>
    (refine gives_iff ?_; refine go_func Tryd.f5 rfl rfl (by simp [Tryd.f5]) ?_; dsimp only [codeL, Tryd.f5, scL, sopsL, guardL, dstAt, loopKey])
    (repeat (first
    | (apply is_ok; (case hw => simp [hM, hF, hs, hf, hA]); (case he => simp [hM, hF, hs, hf, hA]; exact is_rfl))
    | (apply op_no; (case hw => simp [hM, hF, hs, hf, hA]))
    | refine op_nil ?_ | refine next_normal ?_ | refine go_seq ?_ | refine go_region ?_ | refine go_skip ?_ | refine go_block ?_ | refine inb_normal ?_
    | (apply go_yes; (case hc => simp [hM, hF, hs, hf, hA])) | (apply go_no; (case hc => simp [hM, hF, hs, hf, hA]))
    | refine go_exit ?_ | refine next_exit ?_ | refine inb_here ?_ | refine inb_past (by decide) ?_ | refine go_ret ?_ | refine next_ret ?_ | refine inb_ret ?_))
    (apply ends_ok; (case h1 => simp; exact is_rfl); (case h2 => simp; exact is_rfl))
    simp
  have hl6 := hf.2
  have hMg := Merge_eq l (by omega)
  have hmem : ∀ w ∈ mergeL l, foundK l w.1 = true ∧ lastD l w.1 = w.2 := fun w hw => by
    refine ⟨foundK_iff.2 ⟨w, mergeL_sub hw, rfl⟩, ?_⟩
    unfold mergeL at hw
    obtain ⟨k, hk, rfl⟩ := List.mem_map.1 hw
    rfl
  have hfnd : ∀ w ∈ l, foundK (mergeL l) w.1 = true := fun w hw => by
    refine foundK_iff.2 ⟨(w.1, lastD l w.1), ?_, rfl⟩
    unfold mergeL
    exact List.mem_map.2 ⟨w.1, sorted_mem.2 (mem_keysL.2 ⟨w, hw, rfl⟩), rfl⟩
  have hasc : ∀ i a b, (mergeL l)[i]? = some a → (mergeL l)[i + 1]? = some b → a.1 < b.1 := fun i a b ha hb => by
    obtain ⟨h1, rfl⟩ := List.getElem?_eq_some_iff.1 ha
    obtain ⟨h2, rfl⟩ := List.getElem?_eq_some_iff.1 hb
    have := List.pairwise_iff_getElem.1 (mergeL_asc l) i (i + 1) (by simp; omega) (by simp; omega) (by omega)
    simpa using this
  have hmX : In64 ((mergeL l).map Prod.fst) := fun x hx => by
    obtain ⟨w, hw, rfl⟩ := List.mem_map.1 hx
    exact hX _ (List.mem_map.2 ⟨w, mergeL_sub hw, rfl⟩)
  have hml : (mergeL l).length ≤ l.length := by rw [mergeL_length]; exact keysL_length l
  have hP := Plan_eq S B hB l (by omega) hX
  have hP2 := Plan_eq S B hB (mergeL l) (by omega) hmX
  have hpm := @planS_merge S B l
  have hsw := SameW_refl (planS S B l).1 (by have := planS_length S B l; omega)
  generalize hm : mergeL l = m at hMg hmem hfnd hasc hmX hml hP2 hpm
  (refine gives_iff ?_; refine go_func Tryd.f5 rfl rfl (by simp [Tryd.f5]) ?_; dsimp only [codeL, Tryd.f5, scL, sopsL, guardL, dstAt, loopKey])
  (repeat (first
    | (apply is_ok; (case hw => simp [hM, hF, hs, hf, hMg]); (case he => simp [hM, hF, hs, hf, hMg]; exact is_rfl))
    | (apply op_no; (case hw => simp [hM, hF, hs, hf, hMg]))
    | refine op_nil ?_ | refine next_normal ?_ | refine go_seq ?_ | refine go_region ?_ | refine go_skip ?_ | refine go_block ?_ | refine inb_normal ?_
    | (apply go_yes; (case hc => simp [hM, hF, hs, hf, hMg])) | (apply go_no; (case hc => simp [hM, hF, hs, hf, hMg]))
    | refine go_exit ?_ | refine next_exit ?_ | refine inb_here ?_ | refine inb_past (by decide) ?_ | refine go_ret ?_ | refine next_ret ?_ | refine inb_ret ?_))
  refine go_count m.length (fun i => [(1, .sl (l.map wrV)), (2, .ptr 0 1 0 0), (5, .own 1 m.length 0 m.length), (32, .own 1 m.length 0 m.length), (33, .int .i64 m.length), (34, .int .i64 i)])
    (fun i => [.box (drv S B), .dat true 2 (m.map wrV)]) (fun _ => True) (by simp) trivial fun i hi _ => ?_
  have hw : IntKind.i64.wrap ((i : Int) + 1) = (i : Int) + 1 := wrap_id (by omega) (by omega)
  by_cases hlt : i < m.length
  · have gx : m[i]? = some (m[i]'hlt) := List.getElem?_eq_getElem hlt
    have hmi := hmem _ (List.getElem_mem hlt)
    generalize hx0 : m[i]'hlt = x at gx hmi
    obtain ⟨k, s⟩ := x
    dsimp only at hmi
    cases i with
    | zero =>
      have hltI : (0 : Int) < (m.length : Int) := by omega
      (repeat (first
    | (apply is_ok; (case hw => simp [hltI, hlt, gx, hx0]); (case he => simp [hltI, hlt, gx, hx0]; exact is_rfl))
    | (apply op_no; (case hw => simp [hltI, hlt, gx, hx0]))
    | refine op_nil ?_ | refine next_normal ?_ | refine go_seq ?_ | refine go_region ?_ | refine go_skip ?_ | refine go_block ?_ | refine inb_normal ?_
    | (apply go_yes; (case hc => simp [hltI, hlt, gx, hx0])) | (apply go_no; (case hc => simp [hltI, hlt, gx, hx0]))
    | refine go_exit ?_ | refine next_exit ?_ | refine inb_here ?_ | refine inb_past (by decide) ?_ | refine go_ret ?_ | refine next_ret ?_ | refine inb_ret ?_))
      refine go_count l.length (fun j => [(1, .sl (l.map wrV)), (2, .ptr 0 1 0 0), (5, .own 1 m.length 0 m.length), (7, .ptr 2 1 0 0), (8, .str (lastD (l.take j) k)), (9, .bool (foundK (l.take j) k)), (32, .own 1 m.length 0 m.length), (33, .int .i64 m.length), (34, .int .i64 0), (52, .sl (l.map wrV)), (53, .int .i64 l.length), (54, .int .i64 j)])
        (fun j => [.box (drv S B), .dat true 2 (m.map wrV), .box (wrV (k, s))]) (fun _ => True) (by simp [lastD, foundK]) trivial fun j hj _ => ?_
      have hwj : IntKind.i64.wrap ((j : Int) + 1) = (j : Int) + 1 := wrap_id (by omega) (by omega)
      by_cases hltj : j < l.length
      · have gy : l[j]? = some (l[j]'hltj) := List.getElem?_eq_getElem hltj
        have h1 := lastD_take hltj k
        have h2 := foundK_take hltj k
        generalize hy0 : l[j]'hltj = y at gy h1 h2
        obtain ⟨k2, s2⟩ := y
        dsimp only at h1 h2
        rw [h1, h2]
        generalize lastD (l.take j) k = L1
        generalize foundK (l.take j) k = F1
        by_cases hk : k2 = k
        · subst hk
          (repeat (first
    | (apply is_ok; (case hw => simp [hltj, gy, hy0]); (case he => simp [hltj, gy, hy0]; exact is_rfl))
    | (apply op_no; (case hw => simp [hltj, gy, hy0]))
    | refine op_nil ?_ | refine next_normal ?_ | refine go_seq ?_ | refine go_region ?_ | refine go_skip ?_ | refine go_block ?_ | refine inb_normal ?_
    | (apply go_yes; (case hc => simp [hltj, gy, hy0])) | (apply go_no; (case hc => simp [hltj, gy, hy0]))
    | refine go_exit ?_ | refine next_exit ?_ | refine inb_here ?_ | refine inb_past (by decide) ?_ | refine go_ret ?_ | refine next_ret ?_ | refine inb_ret ?_))
          exact ⟨hltj, by simp [hwj], trivial⟩
        · have hk2 : (k2 == k) = false := by simpa using hk
          (repeat (first
    | (apply is_ok; (case hw => simp [hltj, gy, hy0, hk, hk2]); (case he => simp [hltj, gy, hy0, hk, hk2]; exact is_rfl))
    | (apply op_no; (case hw => simp [hltj, gy, hy0, hk, hk2]))
    | refine op_nil ?_ | refine next_normal ?_ | refine go_seq ?_ | refine go_region ?_ | refine go_skip ?_ | refine go_block ?_ | refine inb_normal ?_
    | (apply go_yes; (case hc => simp [hltj, gy, hy0, hk, hk2])) | (apply go_no; (case hc => simp [hltj, gy, hy0, hk, hk2]))
    | refine go_exit ?_ | refine next_exit ?_ | refine inb_here ?_ | refine inb_past (by decide) ?_ | refine go_ret ?_ | refine next_ret ?_ | refine inb_ret ?_))
          exact ⟨hltj, by simp [hwj, hk], trivial⟩
      · have hin : j = l.length := by omega
        subst hin
        rw [List.take_length, hmi.1, hmi.2]
        (repeat (first
    | (apply is_ok; (case hw => simp [hltj]); (case he => simp [hltj]; exact is_rfl))
    | (apply op_no; (case hw => simp [hltj]))
    | refine op_nil ?_ | refine next_normal ?_ | refine go_seq ?_ | refine go_region ?_ | refine go_skip ?_ | refine go_block ?_ | refine inb_normal ?_
    | (apply go_yes; (case hc => simp [hltj])) | (apply go_no; (case hc => simp [hltj]))
    | refine go_exit ?_ | refine next_exit ?_ | refine inb_here ?_ | refine inb_past (by decide) ?_ | refine go_ret ?_ | refine next_ret ?_ | refine inb_ret ?_))
        exact ⟨hlt, by simp [hw], trivial⟩
    | succ i =>
      have hltI : (i : Int) + 1 < (m.length : Int) := by omega
      have hcast : ((i + 1 : Nat) : Int) = (i : Int) + 1 := by omega
      have a1 : (0 : Int) < (i : Int) + 1 := by omega
      have a2 : IntKind.i64.wrap ((i : Int) + 1 - 1) = i := by rw [wrap_id (by omega) (by omega)]; omega
      have a3 : IntKind.i64.wrap (i : Int) = i := wrap_id (by omega) (by omega)
      have hlt2 : i < m.length := by omega
      have gz : m[i]? = some (m[i]'hlt2) := List.getElem?_eq_getElem hlt2
      generalize hz0 : m[i]'hlt2 = z at gz
      have hzx := hasc i z _ gz gx
      obtain ⟨kz, sz⟩ := z
      dsimp only at hzx
      have a4 : ¬ k ≤ kz := by omega
      have c1 : (0 : Int) ≤ (i : Int) + 1 := by omega
      have c2 : ((i : Int) + 1).toNat = i + 1 := by omega
      rw [hcast] at hw
      (repeat (first
    | (apply is_ok; (case hw => simp [hltI, hlt, gx, hx0, a1, a2, a3, hlt2, gz, hz0, a4, c1, c2]); (case he => simp [hltI, hlt, gx, hx0, a1, a2, a3, hlt2, gz, hz0, a4, c1, c2]; exact is_rfl))
    | (apply op_no; (case hw => simp [hltI, hlt, gx, hx0, a1, a2, a3, hlt2, gz, hz0, a4, c1, c2]))
    | refine op_nil ?_ | refine next_normal ?_ | refine go_seq ?_ | refine go_region ?_ | refine go_skip ?_ | refine go_block ?_ | refine inb_normal ?_
    | (apply go_yes; (case hc => simp [hltI, hlt, gx, hx0, a1, a2, a3, hlt2, gz, hz0, a4, c1, c2])) | (apply go_no; (case hc => simp [hltI, hlt, gx, hx0, a1, a2, a3, hlt2, gz, hz0, a4, c1, c2]))
    | refine go_exit ?_ | refine next_exit ?_ | refine inb_here ?_ | refine inb_past (by decide) ?_ | refine go_ret ?_ | refine next_ret ?_ | refine inb_ret ?_))
      refine go_count l.length (fun j => [(1, .sl (l.map wrV)), (2, .ptr 0 1 0 0), (5, .own 1 m.length 0 m.length), (7, .ptr 2 1 0 0), (8, .str (lastD (l.take j) k)), (9, .bool (foundK (l.take j) k)), (32, .own 1 m.length 0 m.length), (33, .int .i64 m.length), (34, .int .i64 ((i : Int) + 1)), (52, .sl (l.map wrV)), (53, .int .i64 l.length), (54, .int .i64 j)])
        (fun j => [.box (drv S B), .dat true 2 (m.map wrV), .box (wrV (k, s))]) (fun _ => True) (by simp [lastD, foundK]) trivial fun j hj _ => ?_
      have hwj : IntKind.i64.wrap ((j : Int) + 1) = (j : Int) + 1 := wrap_id (by omega) (by omega)
      by_cases hltj : j < l.length
      · have gy : l[j]? = some (l[j]'hltj) := List.getElem?_eq_getElem hltj
        have h1 := lastD_take hltj k
        have h2 := foundK_take hltj k
        generalize hy0 : l[j]'hltj = y at gy h1 h2
        obtain ⟨k2, s2⟩ := y
        dsimp only at h1 h2
        rw [h1, h2]
        generalize lastD (l.take j) k = L1
        generalize foundK (l.take j) k = F1
        by_cases hk : k2 = k
        · subst hk
          (repeat (first
    | (apply is_ok; (case hw => simp [hltj, gy, hy0]); (case he => simp [hltj, gy, hy0]; exact is_rfl))
    | (apply op_no; (case hw => simp [hltj, gy, hy0]))
    | refine op_nil ?_ | refine next_normal ?_ | refine go_seq ?_ | refine go_region ?_ | refine go_skip ?_ | refine go_block ?_ | refine inb_normal ?_
    | (apply go_yes; (case hc => simp [hltj, gy, hy0])) | (apply go_no; (case hc => simp [hltj, gy, hy0]))
    | refine go_exit ?_ | refine next_exit ?_ | refine inb_here ?_ | refine inb_past (by decide) ?_ | refine go_ret ?_ | refine next_ret ?_ | refine inb_ret ?_))
          exact ⟨hltj, by simp [hwj], trivial⟩
        · have hk2 : (k2 == k) = false := by simpa using hk
          (repeat (first
    | (apply is_ok; (case hw => simp [hltj, gy, hy0, hk, hk2]); (case he => simp [hltj, gy, hy0, hk, hk2]; exact is_rfl))
    | (apply op_no; (case hw => simp [hltj, gy, hy0, hk, hk2]))
    | refine op_nil ?_ | refine next_normal ?_ | refine go_seq ?_ | refine go_region ?_ | refine go_skip ?_ | refine go_block ?_ | refine inb_normal ?_
    | (apply go_yes; (case hc => simp [hltj, gy, hy0, hk, hk2])) | (apply go_no; (case hc => simp [hltj, gy, hy0, hk, hk2]))
    | refine go_exit ?_ | refine next_exit ?_ | refine inb_here ?_ | refine inb_past (by decide) ?_ | refine go_ret ?_ | refine next_ret ?_ | refine inb_ret ?_))
          exact ⟨hltj, by simp [hwj, hk], trivial⟩
      · have hin : j = l.length := by omega
        subst hin
        rw [List.take_length, hmi.1, hmi.2]
        (repeat (first
    | (apply is_ok; (case hw => simp [hltj]); (case he => simp [hltj]; exact is_rfl))
    | (apply op_no; (case hw => simp [hltj]))
    | refine op_nil ?_ | refine next_normal ?_ | refine go_seq ?_ | refine go_region ?_ | refine go_skip ?_ | refine go_block ?_ | refine inb_normal ?_
    | (apply go_yes; (case hc => simp [hltj])) | (apply go_no; (case hc => simp [hltj]))
    | refine go_exit ?_ | refine next_exit ?_ | refine inb_here ?_ | refine inb_past (by decide) ?_ | refine go_ret ?_ | refine next_ret ?_ | refine inb_ret ?_))
        exact ⟨hlt, by simp [hw], trivial⟩
  · (repeat (first
    | (apply is_ok; (case hw => simp [hlt]); (case he => simp [hlt]; exact is_rfl))
    | (apply op_no; (case hw => simp [hlt]))
    | refine op_nil ?_ | refine next_normal ?_ | refine go_seq ?_ | refine go_region ?_ | refine go_skip ?_ | refine go_block ?_ | refine inb_normal ?_
    | (apply go_yes; (case hc => simp [hlt])) | (apply go_no; (case hc => simp [hlt]))
    | refine go_exit ?_ | refine next_exit ?_ | refine inb_here ?_ | refine inb_past (by decide) ?_ | refine go_ret ?_ | refine next_ret ?_ | refine inb_ret ?_))
    refine go_count l.length (fun i => [(1, .sl (l.map wrV)), (2, .ptr 0 1 0 0), (5, .own 1 m.length 0 m.length), (75, .sl (l.map wrV)), (76, .int .i64 l.length), (77, .int .i64 i)])
      (fun i => [.box (drv S B), .dat true 2 (m.map wrV)]) (fun _ => True) (by simp) trivial fun i hi _ => ?_
    have hw : IntKind.i64.wrap ((i : Int) + 1) = (i : Int) + 1 := wrap_id (by omega) (by omega)
    by_cases hlt : i < l.length
    · have gx : l[i]? = some (l[i]'hlt) := List.getElem?_eq_getElem hlt
      have hmi := hfnd _ (List.getElem_mem hlt)
      generalize hx0 : l[i]'hlt = x at gx hmi
      obtain ⟨k, s⟩ := x
      dsimp only at hmi
      (repeat (first
    | (apply is_ok; (case hw => simp [hlt, gx, hx0]); (case he => simp [hlt, gx, hx0]; exact is_rfl))
    | (apply op_no; (case hw => simp [hlt, gx, hx0]))
    | refine op_nil ?_ | refine next_normal ?_ | refine go_seq ?_ | refine go_region ?_ | refine go_skip ?_ | refine go_block ?_ | refine inb_normal ?_
    | (apply go_yes; (case hc => simp [hlt, gx, hx0])) | (apply go_no; (case hc => simp [hlt, gx, hx0]))
    | refine go_exit ?_ | refine next_exit ?_ | refine inb_here ?_ | refine inb_past (by decide) ?_ | refine go_ret ?_ | refine next_ret ?_ | refine inb_ret ?_))
      refine go_count m.length (fun j => [(1, .sl (l.map wrV)), (2, .ptr 0 1 0 0), (5, .own 1 m.length 0 m.length), (13, .ptr 2 1 0 0), (14, .bool (foundK (m.take j) k)), (75, .sl (l.map wrV)), (76, .int .i64 l.length), (77, .int .i64 i), (81, .own 1 m.length 0 m.length), (82, .int .i64 m.length), (83, .int .i64 j)])
        (fun j => [.box (drv S B), .dat true 2 (m.map wrV), .box (wrV (k, s))]) (fun _ => True) (by simp [foundK]) trivial fun j hj _ => ?_
      have hwj : IntKind.i64.wrap ((j : Int) + 1) = (j : Int) + 1 := wrap_id (by omega) (by omega)
      by_cases hltj : j < m.length
      · have gy : m[j]? = some (m[j]'hltj) := List.getElem?_eq_getElem hltj
        have h2 := foundK_take hltj k
        generalize hy0 : m[j]'hltj = y at gy h2
        obtain ⟨k2, s2⟩ := y
        dsimp only at h2
        rw [h2]
        cases foundK (m.take j) k with
        | true =>
          (repeat (first
    | (apply is_ok; (case hw => simp [hltj, gy, hy0]); (case he => simp [hltj, gy, hy0]; exact is_rfl))
    | (apply op_no; (case hw => simp [hltj, gy, hy0]))
    | refine op_nil ?_ | refine next_normal ?_ | refine go_seq ?_ | refine go_region ?_ | refine go_skip ?_ | refine go_block ?_ | refine inb_normal ?_
    | (apply go_yes; (case hc => simp [hltj, gy, hy0])) | (apply go_no; (case hc => simp [hltj, gy, hy0]))
    | refine go_exit ?_ | refine next_exit ?_ | refine inb_here ?_ | refine inb_past (by decide) ?_ | refine go_ret ?_ | refine next_ret ?_ | refine inb_ret ?_))
          exact ⟨hltj, by simp [hwj], trivial⟩
        | false =>
          (repeat (first
    | (apply is_ok; (case hw => simp [hltj, gy, hy0]); (case he => simp [hltj, gy, hy0]; exact is_rfl))
    | (apply op_no; (case hw => simp [hltj, gy, hy0]))
    | refine op_nil ?_ | refine next_normal ?_ | refine go_seq ?_ | refine go_region ?_ | refine go_skip ?_ | refine go_block ?_ | refine inb_normal ?_
    | (apply go_yes; (case hc => simp [hltj, gy, hy0])) | (apply go_no; (case hc => simp [hltj, gy, hy0]))
    | refine go_exit ?_ | refine next_exit ?_ | refine inb_here ?_ | refine inb_past (by decide) ?_ | refine go_ret ?_ | refine next_ret ?_ | refine inb_ret ?_))
          exact ⟨hltj, by simp [hwj], trivial⟩
      · have hin : j = m.length := by omega
        subst hin
        rw [List.take_length, hmi]
        (repeat (first
    | (apply is_ok; (case hw => simp [hltj]); (case he => simp [hltj]; exact is_rfl))
    | (apply op_no; (case hw => simp [hltj]))
    | refine op_nil ?_ | refine next_normal ?_ | refine go_seq ?_ | refine go_region ?_ | refine go_skip ?_ | refine go_block ?_ | refine inb_normal ?_
    | (apply go_yes; (case hc => simp [hltj])) | (apply go_no; (case hc => simp [hltj]))
    | refine go_exit ?_ | refine next_exit ?_ | refine inb_here ?_ | refine inb_past (by decide) ?_ | refine go_ret ?_ | refine next_ret ?_ | refine inb_ret ?_))
        exact ⟨hlt, by simp [hw], trivial⟩
    · by_cases h0 : (planS S B l).2 = 0
      · rw [hpm h0] at hP2
        generalize planS S B l = p at hP hP2 hsw h0
        (repeat (first
    | (apply is_ok; (case hw => simp [hlt, hP, hP2, hsw, h0, hA]); (case he => simp [hlt, hP, hP2, hsw, h0, hA]; exact is_rfl))
    | (apply op_no; (case hw => simp [hlt, hP, hP2, hsw, h0, hA]))
    | refine op_nil ?_ | refine next_normal ?_ | refine go_seq ?_ | refine go_region ?_ | refine go_skip ?_ | refine go_block ?_ | refine inb_normal ?_
    | (apply go_yes; (case hc => simp [hlt, hP, hP2, hsw, h0, hA])) | (apply go_no; (case hc => simp [hlt, hP, hP2, hsw, h0, hA]))
    | refine go_exit ?_ | refine next_exit ?_ | refine inb_here ?_ | refine inb_past (by decide) ?_ | refine go_ret ?_ | refine next_ret ?_ | refine inb_ret ?_))
        (apply ends_ok; (case h1 => simp; exact is_rfl); (case h2 => simp; exact is_rfl))
        simp
      · generalize planS S B l = p at hP h0
        generalize planS S B m = q at hP2
        (repeat (first
    | (apply is_ok; (case hw => simp [hlt, hP, hP2, h0, hA]); (case he => simp [hlt, hP, hP2, h0, hA]; exact is_rfl))
    | (apply op_no; (case hw => simp [hlt, hP, hP2, h0, hA]))
    | refine op_nil ?_ | refine next_normal ?_ | refine go_seq ?_ | refine go_region ?_ | refine go_skip ?_ | refine go_block ?_ | refine inb_normal ?_
    | (apply go_yes; (case hc => simp [hlt, hP, hP2, h0, hA])) | (apply go_no; (case hc => simp [hlt, hP, hP2, h0, hA]))
    | refine go_exit ?_ | refine next_exit ?_ | refine inb_here ?_ | refine inb_past (by decide) ?_ | refine go_ret ?_ | refine next_ret ?_ | refine inb_ret ?_))
        (apply ends_ok; (case h1 => simp; exact is_rfl); (case h2 => simp; exact is_rfl))
        simp
end Go.Abs

namespace Go.Abs
open Go.Proofs
set_option maxRecDepth 100000
set_option linter.unusedSimpArgs false

abbrev OkAll (n : Nat) (B : List Int) (l : List (Int × List UInt8)) : Prop := ∀ w ∈ l, faultI n B w = 0
abbrev puts (S : List (List UInt8)) (l : List (Int × List UInt8)) : List (List UInt8) := l.foldl putS S

theorem puts_length : ∀ (l : List (Int × List UInt8)) (S : List (List UInt8)), (puts S l).length = S.length
  | [], S => rfl
  | w :: l, S => by show (puts (putS S w) l).length = _; rw [puts_length l, putS_length]

theorem applyS_fuse (B : List Int) : ∀ (l : List (Int × List UInt8)) (S : List (List UInt8)) (i k : Nat), OkAll S.length B l → i ≤ k → applyS B k S i l = (puts S (l.take (k - i)), min k (i + l.length), 0)
  | [], S, i, k, _, h => by simp [applyS]; omega
  | w :: l, S, i, k, ho, h => by
    rw [applyS]
    by_cases hk : i = k
    · subst hk
      simp
    · rw [if_neg (by omega), if_pos (ho w (List.mem_cons_self ..)), applyS_fuse B l (putS S w) (i + 1) k (by rw [putS_length]; exact fun w hw => ho w (List.mem_cons_of_mem _ hw)) (by omega)]
      have : k - i = (k - (i + 1)) + 1 := by omega
      rw [this, List.take_succ_cons, List.length_cons, show i + 1 + l.length = i + (l.length + 1) by omega]
      rfl
theorem applyS_all (B : List Int) : ∀ (l : List (Int × List UInt8)) (S : List (List UInt8)) (i : Nat), OkAll S.length B l → applyS B (-1) S i l = (puts S l, i + l.length, 0)
  | [], S, i, _ => rfl
  | w :: l, S, i, ho => by
    rw [applyS, if_neg (by omega), if_pos (ho w (List.mem_cons_self ..)), applyS_all B l (putS S w) (i + 1) (by rw [putS_length]; exact fun w hw => ho w (List.mem_cons_of_mem _ hw))]
    rw [List.length_cons, show i + 1 + l.length = i + (l.length + 1) by omega]
    rfl
theorem applyS_err (B : List Int) : ∀ (l : List (Int × List UInt8)) (S : List (List UInt8)) (i : Nat), ¬ OkAll S.length B l → (applyS B (-1) S i l).2.2 ≠ 0 ∧ (applyS B (-1) S i l).2.1 < i + l.length
  | [], S, i, ho => absurd (fun w hw => by simp at hw) ho
  | w :: l, S, i, ho => by
    rw [applyS, if_neg (by omega)]
    by_cases hw : faultI S.length B w = 0
    · rw [if_pos hw]
      have := applyS_err B l (putS S w) (i + 1) (fun h => ho fun v hv => by
        rw [putS_length] at h
        rcases List.mem_cons.1 hv with rfl | hv
        · exact hw
        · exact h v hv)
      simp only [List.length_cons]
      exact ⟨this.1, by omega⟩
    · rw [if_neg hw]
      exact ⟨hw, by simp⟩
theorem RightP_puts {B : List Int} : ∀ (l : List (Int × List UInt8)) (S : List (List UInt8)), RightP S B → OkAll S.length B l → RightP (puts S l) B
  | [], S, h, _ => h
  | w :: l, S, h, ho => RightP_puts l (putS S w) (RightP_put h (faultI_zero.1 (ho w (List.mem_cons_self ..))).2.1) (by rw [putS_length]; exact fun v hv => ho v (List.mem_cons_of_mem _ hv))
theorem puts_other {B : List Int} : ∀ (l : List (Int × List UInt8)) (S : List (List UInt8)), OkAll S.length B l → ∀ j : Nat, S[j]? ≠ (puts S l)[j]? → ∃ w ∈ l, w.1 = j
  | [], S, _, j, h => absurd rfl h
  | w :: l, S, ho, j, h => by
    by_cases hw : w.1 = j
    · exact ⟨w, List.mem_cons_self .., hw⟩
    · have h0 := (faultI_zero.1 (ho w (List.mem_cons_self ..))).1.1
      have e : (putS S w)[j]? = S[j]? := by
        unfold putS
        rw [List.getElem?_set_ne (by omega)]
      obtain ⟨v, hv, h2⟩ := puts_other l (putS S w) (by rw [putS_length]; exact fun v hv => ho v (List.mem_cons_of_mem _ hv)) j (by rw [e]; exact h)
      exact ⟨v, List.mem_cons_of_mem _ hv, h2⟩
theorem diffL_mem {S T : List (List UInt8)} {n : Nat} {x : Int} (h : x ∈ diffL S T n) : ∃ j : Nat, x = j ∧ S[j]? ≠ T[j]? := by
  unfold diffL at h
  obtain ⟨j, h1, rfl⟩ := List.mem_map.1 h
  rw [List.mem_filter] at h1
  exact ⟨j, rfl, by simpa using h1.2⟩

theorem is_same {C : Ctx} {d : Bool} {env : Env} {H : Heap} {N : Env → Heap → Prop} {dst : Option Nat} {op : Op} {t : Nat} {g : Option (Option Nat × Bool)} {r : List Sop} {v : V} (hw : want1 env g = .yes) (he : ev1 C.P (callW C d) env H op t = some (v, H)) (h : Op1 C d r (env.put dst v) H N) : Op1 C d (⟨dst, op, t, g⟩ :: r) env H N := op_yes hw he h

end Go.Abs

