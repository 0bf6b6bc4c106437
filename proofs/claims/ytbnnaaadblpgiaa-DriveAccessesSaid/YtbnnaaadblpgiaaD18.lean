/- Proved here: what functions of the program compute, over the evaluator. No condition but those that each theorem states. -/
import Derived.Test.YtbnnaaadblpgiaaD17
import Derived.Test.YtbnnaaadblpgiaaD14
namespace Go.Abs
open Go.Proofs
set_option maxRecDepth 100000
set_option linter.unusedSimpArgs false
set_option linter.unusedVariables false

/-- Where a number stands in a list, or would stand. -/
structure PosI (B : List Int) (x : Int) (k : Nat) : Prop where
  le : k ≤ B.length
  lo : ∀ i (h : i < B.length), i < k → B[i] < x
  hi : ∀ i (h : i < B.length), k ≤ i → x ≤ B[i]
theorem PosI.uniq {B : List Int} {x : Int} {k m : Nat} (h : PosI B x k) (h' : PosI B x m) : k = m := by
  rcases Nat.lt_trichotomy k m with h1 | h1 | h1
  · have := h'.le
    have a := h.hi k (by omega) (Nat.le_refl _)
    have b := h'.lo k (by omega) h1
    omega
  · exact h1
  · have := h.le
    have a := h'.hi m (by omega) (Nat.le_refl _)
    have b := h.lo m (by omega) h1
    omega
theorem right_lt {S : List (List UInt8)} {B : List Int} (h : RightP S B) : ∀ i j (hj : j < B.length) (hij : i < j), (B[i]'(by omega)) < B[j] := by
  obtain ⟨h1, h2, h3, h4, h5⟩ := h
  intro i j
  induction j with
  | zero => intro _ hij; omega
  | succ j ih =>
    intro hj hij
    have h6 := h5 (j + 1) (List.mem_range.2 hj) (by omega)
    rw [Nat.add_sub_cancel, List.getD_eq_getElem?_getD, List.getD_eq_getElem?_getD, List.getElem?_eq_getElem hj, List.getElem?_eq_getElem (by omega : j < B.length)] at h6
    simp only [Option.getD_some] at h6
    by_cases he : i = j
    · subst he; exact h6
    · have := ih (by omega) (by omega)
      omega
theorem posI_ex {S : List (List UInt8)} {B : List Int} (h : RightP S B) (x : Int) : ∃ k, PosI B x k := by
  have key : ∀ n, n ≤ B.length → ∃ k, k ≤ n ∧ (∀ i (h : i < B.length), i < k → B[i] < x) ∧ ∀ i (h : i < B.length), i < n → k ≤ i → x ≤ B[i] := fun n => by
    induction n with
    | zero => intro _; exact ⟨0, Nat.le_refl _, fun i _ h => by omega, fun i _ h => by omega⟩
    | succ n ih =>
      intro hn
      obtain ⟨k, h1, h2, h3⟩ := ih (by omega)
      by_cases hx : B[n] < x
      · refine ⟨n + 1, Nat.le_refl _, fun i hi hin => ?_, fun i hi h6 h7 => by omega⟩
        by_cases he : i = n
        · subst he; exact hx
        · have := right_lt h i n (by omega) (by omega)
          omega
      · refine ⟨k, by omega, h2, fun i hi h6 h7 => ?_⟩
        by_cases he : i = n
        · subst he; omega
        · exact h3 i hi (by omega) h7
  obtain ⟨k, h1, h2, h3⟩ := key B.length (Nat.le_refl _)
  exact ⟨k, h1, h2, fun i hi hk => h3 i hi hi hk⟩
theorem PosI.mem {S : List (List UInt8)} {B : List Int} {x : Int} {k : Nat} (hR : RightP S B) (h : PosI B x k) : x ∈ B ↔ B[k]? = some x := by
  constructor
  · intro hx
    obtain ⟨j, hj, rfl⟩ := List.mem_iff_getElem.1 hx
    rcases Nat.lt_trichotomy j k with h1 | h1 | h1
    · have := h.lo j hj h1; omega
    · subst h1; exact List.getElem?_eq_getElem hj
    · have a := h.hi k (by omega) (Nat.le_refl _)
      have b := right_lt hR k j hj h1
      omega
  · intro hx
    exact List.mem_of_getElem? hx
theorem wrap_idu {x : Int} (h : 0 ≤ x) (h' : x ≤ 9223372036854775807) : IntKind.u64.wrap x = x := by
  have e : IntKind.u64.wrap x = x % 18446744073709551616 := by simp [IntKind.wrap, IntKind.bits, IntKind.signed]
  rw [e]
  exact Int.emod_eq_of_lt h (by omega)

theorem isNaN_eq (x : Int) : bodyW DC 32 [.int .i64 x] [] = some (.bool false, []) := by
  (refine gives_iff ?_; refine go_func Try.f32 rfl rfl (by simp [Try.f32]) ?_; dsimp only [codeL, Try.f32, scL, sopsL, guardL, dstAt, loopKey])
  (repeat (first
    | (apply is_ok; (case hw => simp); (case he => simp; exact is_rfl))
    | (apply op_no; (case hw => simp))
    | refine op_nil ?_ | refine next_normal ?_ | refine go_seq ?_ | refine go_region ?_ | refine go_skip ?_ | refine go_block ?_ | refine inb_normal ?_
    | (apply go_yes; (case hc => simp)) | (apply go_no; (case hc => simp))
    | refine go_exit ?_ | refine next_exit ?_ | refine inb_here ?_ | refine inb_past (by decide) ?_ | refine go_ret ?_ | refine next_ret ?_ | refine inb_ret ?_))
  (apply ends_ok; (case h1 => simp; exact is_rfl); (case h2 => simp; exact is_rfl))
  simp
theorem cmpNaN_eq (x : Int) : bodyW DC 41 [.int .i64 x] [] = some (.bool false, []) := by
  (refine gives_iff ?_; refine go_func Try.f41 rfl rfl (by simp [Try.f41]) ?_; dsimp only [codeL, Try.f41, scL, sopsL, guardL, dstAt, loopKey])
  (repeat (first
    | (apply is_ok; (case hw => simp); (case he => simp; exact is_rfl))
    | (apply op_no; (case hw => simp))
    | refine op_nil ?_ | refine next_normal ?_ | refine go_seq ?_ | refine go_region ?_ | refine go_skip ?_ | refine go_block ?_ | refine inb_normal ?_
    | (apply go_yes; (case hc => simp)) | (apply go_no; (case hc => simp))
    | refine go_exit ?_ | refine next_exit ?_ | refine inb_here ?_ | refine inb_past (by decide) ?_ | refine go_ret ?_ | refine next_ret ?_ | refine inb_ret ?_))
  (apply ends_ok; (case h1 => simp; exact is_rfl); (case h2 => simp; exact is_rfl))
  simp
theorem less_eq (x y : Int) : bodyW DC 31 [.int .i64 x, .int .i64 y] [] = some (.bool (decide (x < y)), []) := by
  have v1 := cmpNaN_eq x
  have v2 := cmpNaN_eq y
  (refine gives_iff ?_; refine go_func Try.f31 rfl rfl (by simp [Try.f31]) ?_; dsimp only [codeL, Try.f31, scL, sopsL, guardL, dstAt, loopKey])
  (repeat (first
    | (apply is_ok; (case hw => simp [v1, v2]); (case he => simp [v1, v2]; exact is_rfl))
    | (apply op_no; (case hw => simp [v1, v2]))
    | refine op_nil ?_ | refine next_normal ?_ | refine go_seq ?_ | refine go_region ?_ | refine go_skip ?_ | refine go_block ?_ | refine inb_normal ?_
    | (apply go_yes; (case hc => simp [v1, v2])) | (apply go_no; (case hc => simp [v1, v2]))
    | refine go_exit ?_ | refine next_exit ?_ | refine inb_here ?_ | refine inb_past (by decide) ?_ | refine go_ret ?_ | refine next_ret ?_ | refine inb_ret ?_))
  (apply ends_ok; (case h1 => simp; exact is_rfl); (case h2 => simp; exact is_rfl))
  simp

theorem BinS_eq (B : List Int) (hl : B.length ≤ 1000000) (x : Int) (k : Nat) (hk : PosI B x k) : bodyW DC 23 [.sl (ints B), .int .i64 x] [] = some (.tuple [.int .i64 k, .bool (decide (B[k]? = some x))], []) := by
  (refine gives_iff ?_; refine go_func Try.f23 rfl rfl (by simp [Try.f23]) ?_; dsimp only [codeL, Try.f23, scL, sopsL, guardL, dstAt, loopKey])
  (repeat (first
    | (apply is_ok; (case hw => simp); (case he => simp; exact is_rfl))
    | (apply op_no; (case hw => simp))
    | refine op_nil ?_ | refine next_normal ?_ | refine go_seq ?_ | refine go_region ?_ | refine go_skip ?_ | refine go_block ?_ | refine inb_normal ?_
    | (apply go_yes; (case hc => simp)) | (apply go_no; (case hc => simp))
    | refine go_exit ?_ | refine next_exit ?_ | refine inb_here ?_ | refine inb_past (by decide) ?_ | refine go_ret ?_ | refine next_ret ?_ | refine inb_ret ?_))
  refine go_while (σ := Nat × Nat) (fun q => [(0, .sl (ints B)), (1, .int .i64 x), (6, .int .i64 B.length), (7, .int .i64 q.1), (8, .int .i64 q.2)]) (fun _ => [])
    (fun q => q.1 ≤ k ∧ k ≤ q.2 ∧ q.2 ≤ B.length) (fun q => q.2 - q.1) (0, B.length) (by simp) ⟨by simp, hk.le, by simp⟩ fun q hq => ?_
  obtain ⟨i, j⟩ := q
  obtain ⟨h1, h2, h3⟩ := hq
  simp only at h1 h2 h3
  by_cases hlt : i < j
  · have g1 : (i : Int) < j := by omega
    generalize hm : (i + j) / 2 = m
    have hm1 : i ≤ m := by omega
    have hm2 : m < j := by omega
    have hm3 : m < B.length := by omega
    have g2 : (m : Int) < B.length := by omega
    have g3 : B[m]? = some B[m] := List.getElem?_eq_getElem hm3
    have w1 : IntKind.i64.wrap ((i : Int) + j) = (i : Int) + j := wrap_id (by omega) (by omega)
    have w2 : IntKind.u64.wrap ((i : Int) + j) = (i : Int) + j := wrap_idu (by omega) (by omega)
    have w3 : ((i : Int) + j).fdiv 2 = m := by rw [Int.fdiv_eq_ediv_of_nonneg _ (by omega)]; omega
    have w4 : IntKind.u64.wrap (m : Int) = m := wrap_idu (by omega) (by omega)
    have w5 : IntKind.i64.wrap (m : Int) = m := wrap_id (by omega) (by omega)
    have w6 : IntKind.i64.wrap ((m : Int) + 1) = m + 1 := wrap_id (by omega) (by omega)
    have v1 := less_eq B[m] x
    have mb : min 1 IntKind.u64.bits = 1 := rfl
    have v3 := hk.lo m hm3
    have v4 := hk.hi m hm3
    by_cases hc : B[m] < x
    · have : m < k := by
        rcases Nat.lt_or_ge m k with h | h
        · exact h
        · have := v4 h
          omega
      rw [decide_eq_true hc] at v1
      (repeat (first
    | (apply is_ok; (case hw => simp [g1, g2, g3, w1, w2, w3, w4, w5, w6, mb, hlt, hm3, v1]); (case he => simp [g1, g2, g3, w1, w2, w3, w4, w5, w6, mb, hlt, hm3, v1]; exact is_rfl))
    | (apply op_no; (case hw => simp [g1, g2, g3, w1, w2, w3, w4, w5, w6, mb, hlt, hm3, v1]))
    | refine op_nil ?_ | refine next_normal ?_ | refine go_seq ?_ | refine go_region ?_ | refine go_skip ?_ | refine go_block ?_ | refine inb_normal ?_
    | (apply go_yes; (case hc => simp [g1, g2, g3, w1, w2, w3, w4, w5, w6, mb, hlt, hm3, v1])) | (apply go_no; (case hc => simp [g1, g2, g3, w1, w2, w3, w4, w5, w6, mb, hlt, hm3, v1]))
    | refine go_exit ?_ | refine next_exit ?_ | refine inb_here ?_ | refine inb_past (by decide) ?_ | refine go_ret ?_ | refine next_ret ?_ | refine inb_ret ?_))
      exact ⟨(m + 1, j), by simp [w6], by simp; omega, by simp only; omega, by simp only; omega, by simp only; omega⟩
    · have : k ≤ m := by
        rcases Nat.lt_or_ge m k with h | h
        · exact absurd (v3 h) hc
        · exact h
      rw [decide_eq_false hc] at v1
      (repeat (first
    | (apply is_ok; (case hw => simp [g1, g2, g3, w1, w2, w3, w4, w5, w6, mb, hlt, hm3, v1]); (case he => simp [g1, g2, g3, w1, w2, w3, w4, w5, w6, mb, hlt, hm3, v1]; exact is_rfl))
    | (apply op_no; (case hw => simp [g1, g2, g3, w1, w2, w3, w4, w5, w6, mb, hlt, hm3, v1]))
    | refine op_nil ?_ | refine next_normal ?_ | refine go_seq ?_ | refine go_region ?_ | refine go_skip ?_ | refine go_block ?_ | refine inb_normal ?_
    | (apply go_yes; (case hc => simp [g1, g2, g3, w1, w2, w3, w4, w5, w6, mb, hlt, hm3, v1])) | (apply go_no; (case hc => simp [g1, g2, g3, w1, w2, w3, w4, w5, w6, mb, hlt, hm3, v1]))
    | refine go_exit ?_ | refine next_exit ?_ | refine inb_here ?_ | refine inb_past (by decide) ?_ | refine go_ret ?_ | refine next_ret ?_ | refine inb_ret ?_))
      exact ⟨(i, m), by simp, by simp; omega, by simp only; omega, by simp only; omega, by simp only; omega⟩
  · have : i = k := by omega
    subst this
    have g1 : ¬ (i : Int) < j := by omega
    have n2 := isNaN_eq x
    by_cases hk1 : i < B.length
    · have g2 : (i : Int) < B.length := by omega
      have g3 : B[i]? = some B[i] := List.getElem?_eq_getElem hk1
      have n1 := isNaN_eq B[i]
      by_cases he : B[i] = x
      · (repeat (first
    | (apply is_ok; (case hw => simp [g1, g2, g3, hlt, hk1, n1, n2, he]); (case he => simp [g1, g2, g3, hlt, hk1, n1, n2, he]; exact is_rfl))
    | (apply op_no; (case hw => simp [g1, g2, g3, hlt, hk1, n1, n2, he]))
    | refine op_nil ?_ | refine next_normal ?_ | refine go_seq ?_ | refine go_region ?_ | refine go_skip ?_ | refine go_block ?_ | refine inb_normal ?_
    | (apply go_yes; (case hc => simp [g1, g2, g3, hlt, hk1, n1, n2, he])) | (apply go_no; (case hc => simp [g1, g2, g3, hlt, hk1, n1, n2, he]))
    | refine go_exit ?_ | refine next_exit ?_ | refine inb_here ?_ | refine inb_past (by decide) ?_ | refine go_ret ?_ | refine next_ret ?_ | refine inb_ret ?_))
        (apply ends_ok; (case h1 => simp; exact is_rfl); (case h2 => simp; exact is_rfl))
        simp [g3, he]
      · (repeat (first
    | (apply is_ok; (case hw => simp [g1, g2, g3, hlt, hk1, n1, n2, he]); (case he => simp [g1, g2, g3, hlt, hk1, n1, n2, he]; exact is_rfl))
    | (apply op_no; (case hw => simp [g1, g2, g3, hlt, hk1, n1, n2, he]))
    | refine op_nil ?_ | refine next_normal ?_ | refine go_seq ?_ | refine go_region ?_ | refine go_skip ?_ | refine go_block ?_ | refine inb_normal ?_
    | (apply go_yes; (case hc => simp [g1, g2, g3, hlt, hk1, n1, n2, he])) | (apply go_no; (case hc => simp [g1, g2, g3, hlt, hk1, n1, n2, he]))
    | refine go_exit ?_ | refine next_exit ?_ | refine inb_here ?_ | refine inb_past (by decide) ?_ | refine go_ret ?_ | refine next_ret ?_ | refine inb_ret ?_))
        (apply ends_ok; (case h1 => simp; exact is_rfl); (case h2 => simp; exact is_rfl))
        simp [g3, he]
    · have g2 : ¬ (i : Int) < B.length := by omega
      have g3 : B[i]? = none := List.getElem?_eq_none (by omega)
      (repeat (first
    | (apply is_ok; (case hw => simp [g1, g2, g3, hlt, hk1]); (case he => simp [g1, g2, g3, hlt, hk1]; exact is_rfl))
    | (apply op_no; (case hw => simp [g1, g2, g3, hlt, hk1]))
    | refine op_nil ?_ | refine next_normal ?_ | refine go_seq ?_ | refine go_region ?_ | refine go_skip ?_ | refine go_block ?_ | refine inb_normal ?_
    | (apply go_yes; (case hc => simp [g1, g2, g3, hlt, hk1])) | (apply go_no; (case hc => simp [g1, g2, g3, hlt, hk1]))
    | refine go_exit ?_ | refine next_exit ?_ | refine inb_here ?_ | refine inb_past (by decide) ?_ | refine go_ret ?_ | refine next_ret ?_ | refine inb_ret ?_))
      (apply ends_ok; (case h1 => simp; exact is_rfl); (case h2 => simp; exact is_rfl))
      simp [g3]

/-- The bad sectors with another one. -/
def spoilB (B : List Int) (x : Int) (k : Nat) : List Int := if x ∈ B then B else B.take k ++ x :: B.drop k

theorem Spoil_eq (S : List (List UInt8)) (B : List Int) (hS : S.length ≤ 1000000) (hB : B.length ≤ 1000000) (hR : RightP S B) (x : Int) (k : Nat) (hk : PosI B x k) (h : 0 ≤ x ∧ x < S.length) :
    bodyW DC 10 [drv S B, .int .i64 x] [] = some (.tuple [.agg [.own 0 S.length 0 S.length, .own 1 (spoilB B x k).length 0 (spoilB B x k).length], .int .i64 0], [.dat true 1 (strs S), .dat true 1 (ints (spoilB B x k))]) := by
  have v1 := has_eq S B x
  have v2 := copied_eq S B hS hB
  have v3 := BinS_eq B hB x k hk
  have hm := hk.mem hR
  by_cases hx : x ∈ B
  · have e : spoilB B x k = B := if_pos hx
    rw [e]
    rw [decide_eq_true (hm.1 hx)] at v3
    (refine gives_iff ?_; refine go_func Try.f10 rfl rfl (by simp [Try.f10]) ?_; dsimp only [codeL, Try.f10, scL, sopsL, guardL, dstAt, loopKey])
    (repeat (first
    | (apply is_ok; (case hw => simp [v1, v2, v3, h]); (case he => simp [v1, v2, v3, h]; exact is_rfl))
    | (apply op_no; (case hw => simp [v1, v2, v3, h]))
    | refine op_nil ?_ | refine next_normal ?_ | refine go_seq ?_ | refine go_region ?_ | refine go_skip ?_ | refine go_block ?_ | refine inb_normal ?_
    | (apply go_yes; (case hc => simp [v1, v2, v3, h])) | (apply go_no; (case hc => simp [v1, v2, v3, h]))
    | refine go_exit ?_ | refine next_exit ?_ | refine inb_here ?_ | refine inb_past (by decide) ?_ | refine go_ret ?_ | refine next_ret ?_ | refine inb_ret ?_))
    (apply ends_ok; (case h1 => simp; exact is_rfl); (case h2 => simp; exact is_rfl))
    simp
  · have e : spoilB B x k = B.take k ++ x :: B.drop k := if_neg hx
    have el : (spoilB B x k).length = B.length + 1 := by rw [e]; have := hk.le; simp; omega
    rw [decide_eq_false (fun h => hx (hm.2 h))] at v3
    have hkl := hk.le
    have v4 : ∀ H : Heap, H[2]? = some (.dat true 1 (ints B)) → True := fun _ _ => trivial
    have r1 : (B.length + 1) * 8 ≤ room := by unfold room; omega
    have r2 : B.length + 1 ≤ room := by unfold room; omega
    have k1 : (k : Int) ≤ B.length := by omega
    rw [el, e]
    (refine gives_iff ?_; refine go_func Try.f10 rfl rfl (by simp [Try.f10]) ?_; dsimp only [codeL, Try.f10, scL, sopsL, guardL, dstAt, loopKey])
    (repeat (first
    | (apply is_ok; (case hw => simp [v1, v2, v3, h, insAt1X, toInts_ints, hkl, r1, r2, k1]); (case he => simp [v1, v2, v3, h, insAt1X, toInts_ints, hkl, r1, r2, k1]; exact is_rfl))
    | (apply op_no; (case hw => simp [v1, v2, v3, h, insAt1X, toInts_ints, hkl, r1, r2, k1]))
    | refine op_nil ?_ | refine next_normal ?_ | refine go_seq ?_ | refine go_region ?_ | refine go_skip ?_ | refine go_block ?_ | refine inb_normal ?_
    | (apply go_yes; (case hc => simp [v1, v2, v3, h, insAt1X, toInts_ints, hkl, r1, r2, k1])) | (apply go_no; (case hc => simp [v1, v2, v3, h, insAt1X, toInts_ints, hkl, r1, r2, k1]))
    | refine go_exit ?_ | refine next_exit ?_ | refine inb_here ?_ | refine inb_past (by decide) ?_ | refine go_ret ?_ | refine next_ret ?_ | refine inb_ret ?_))
    (apply ends_ok; (case h1 => simp; exact is_rfl); (case h2 => simp; exact is_rfl))
    simp

theorem Spoil_no (S : List (List UInt8)) (B : List Int) (x : Int) (h : ¬ (0 ≤ x ∧ x < S.length)) : bodyW DC 10 [drv S B, .int .i64 x] [] = some (.tuple [.agg [.nils, .nils], .int .i64 2], []) := by
  have v1 := has_eq S B x
  (refine gives_iff ?_; refine go_func Try.f10 rfl rfl (by simp [Try.f10]) ?_; dsimp only [codeL, Try.f10, scL, sopsL, guardL, dstAt, loopKey])
  (repeat (first
    | (apply is_ok; (case hw => simp [v1, h]); (case he => simp [v1, h]; exact is_rfl))
    | (apply op_no; (case hw => simp [v1, h]))
    | refine op_nil ?_ | refine next_normal ?_ | refine go_seq ?_ | refine go_region ?_ | refine go_skip ?_ | refine go_block ?_ | refine inb_normal ?_
    | (apply go_yes; (case hc => simp [v1, h])) | (apply go_no; (case hc => simp [v1, h]))
    | refine go_exit ?_ | refine next_exit ?_ | refine inb_here ?_ | refine inb_past (by decide) ?_ | refine go_ret ?_ | refine next_ret ?_ | refine inb_ret ?_))
  (apply ends_ok; (case h1 => simp; exact is_rfl); (case h2 => simp; exact is_rfl))
  simp
theorem SpoilR_no (S : List (List UInt8)) (B : List Int) (x : Int) (h : ¬ (0 ≤ x ∧ x < S.length)) : bodyW DC 11 [drv S B, .int .i64 x] [] = some (.tuple [.agg [.nils, .nils], .int .i64 2], []) := by
  by_cases h1 : x < 0
  · (refine gives_iff ?_; refine go_func Try.f11 rfl rfl (by simp [Try.f11]) ?_; dsimp only [codeL, Try.f11, scL, sopsL, guardL, dstAt, loopKey])
    (repeat (first
    | (apply is_ok; (case hw => simp [h1]); (case he => simp [h1]; exact is_rfl))
    | (apply op_no; (case hw => simp [h1]))
    | refine op_nil ?_ | refine next_normal ?_ | refine go_seq ?_ | refine go_region ?_ | refine go_skip ?_ | refine go_block ?_ | refine inb_normal ?_
    | (apply go_yes; (case hc => simp [h1])) | (apply go_no; (case hc => simp [h1]))
    | refine go_exit ?_ | refine next_exit ?_ | refine inb_here ?_ | refine inb_past (by decide) ?_ | refine go_ret ?_ | refine next_ret ?_ | refine inb_ret ?_))
    (apply ends_ok; (case h1 => simp; exact is_rfl); (case h2 => simp; exact is_rfl))
    simp
  · have h2 : (S.length : Int) ≤ x := by omega
    (refine gives_iff ?_; refine go_func Try.f11 rfl rfl (by simp [Try.f11]) ?_; dsimp only [codeL, Try.f11, scL, sopsL, guardL, dstAt, loopKey])
    (repeat (first
    | (apply is_ok; (case hw => simp [h1, h2]); (case he => simp [h1, h2]; exact is_rfl))
    | (apply op_no; (case hw => simp [h1, h2]))
    | refine op_nil ?_ | refine next_normal ?_ | refine go_seq ?_ | refine go_region ?_ | refine go_skip ?_ | refine go_block ?_ | refine inb_normal ?_
    | (apply go_yes; (case hc => simp [h1, h2])) | (apply go_no; (case hc => simp [h1, h2]))
    | refine go_exit ?_ | refine next_exit ?_ | refine inb_here ?_ | refine inb_past (by decide) ?_ | refine go_ret ?_ | refine next_ret ?_ | refine inb_ret ?_))
    (apply ends_ok; (case h1 => simp; exact is_rfl); (case h2 => simp; exact is_rfl))
    simp
theorem SpoilR_in (S : List (List UInt8)) (B : List Int) (hB : B.length ≤ 1000000) (x : Int) (hx : x ∈ B) (h : 0 ≤ x ∧ x < S.length) : bodyW DC 11 [drv S B, .int .i64 x] [] = some (.tuple [drv S B, .int .i64 0], []) := by
  have v := Isbad_eq S B (by unfold maxLen; omega) x
  rw [decide_eq_true hx] at v
  have h1 : ¬ x < 0 := by omega
  have h2 : ¬ (S.length : Int) ≤ x := by omega
  (refine gives_iff ?_; refine go_func Try.f11 rfl rfl (by simp [Try.f11]) ?_; dsimp only [codeL, Try.f11, scL, sopsL, guardL, dstAt, loopKey])
  (repeat (first
    | (apply is_ok; (case hw => simp [v, h1, h2]); (case he => simp [v, h1, h2]; exact is_rfl))
    | (apply op_no; (case hw => simp [v, h1, h2]))
    | refine op_nil ?_ | refine next_normal ?_ | refine go_seq ?_ | refine go_region ?_ | refine go_skip ?_ | refine go_block ?_ | refine inb_normal ?_
    | (apply go_yes; (case hc => simp [v, h1, h2])) | (apply go_no; (case hc => simp [v, h1, h2]))
    | refine go_exit ?_ | refine next_exit ?_ | refine inb_here ?_ | refine inb_past (by decide) ?_ | refine go_ret ?_ | refine next_ret ?_ | refine inb_ret ?_))
  (apply ends_ok; (case h1 => simp; exact is_rfl); (case h2 => simp; exact is_rfl))
  simp
theorem SpoilR_eq (S : List (List UInt8)) (B : List Int) (hB : B.length ≤ 1000000) (x : Int) (k : Nat) (hk : PosI B x k) (hx : ¬ x ∈ B) (h : 0 ≤ x ∧ x < S.length) :
    bodyW DC 11 [drv S B, .int .i64 x] [] = some (.tuple [.agg [.sl (strs S), .own 0 (B.length + 1) 0 (B.length + 1)], .int .i64 0], [.dat true 1 (ints (B.take k ++ x :: B.drop k))]) := by
  have v := Isbad_eq S B (by unfold maxLen; omega) x
  rw [decide_eq_false hx] at v
  have h1 : ¬ x < 0 := by omega
  have h2 : ¬ (S.length : Int) ≤ x := by omega
  have hkl := hk.le
  (refine gives_iff ?_; refine go_func Try.f11 rfl rfl (by simp [Try.f11]) ?_; dsimp only [codeL, Try.f11, scL, sopsL, guardL, dstAt, loopKey])
  (repeat (first
    | (apply is_ok; (case hw => simp [v, h1, h2]); (case he => simp [v, h1, h2]; exact is_rfl))
    | (apply op_no; (case hw => simp [v, h1, h2]))
    | refine op_nil ?_ | refine next_normal ?_ | refine go_seq ?_ | refine go_region ?_ | refine go_skip ?_ | refine go_block ?_ | refine inb_normal ?_
    | (apply go_yes; (case hc => simp [v, h1, h2])) | (apply go_no; (case hc => simp [v, h1, h2]))
    | refine go_exit ?_ | refine next_exit ?_ | refine inb_here ?_ | refine inb_past (by decide) ?_ | refine go_ret ?_ | refine next_ret ?_ | refine inb_ret ?_))
  refine go_while (σ := Nat) (fun m => [(1, .int .i64 x), (2, .ptr 0 1 0 0), (4, .ptr 1 1 0 0), (6, .int .i64 m)]) (fun _ => [.box (drv S B), .box (.agg [.own 2 0 0 0, .own 3 0 0 0]), .dat true 1 [], .dat true 1 []])
    (fun m => k ≤ m ∧ m ≤ B.length) (fun m => m) B.length (by simp) ⟨hkl, Nat.le_refl _⟩ fun m ⟨hm1, hm2⟩ => ?_
  rcases Nat.lt_or_ge k m with hlt | hge
  · obtain ⟨q, rfl⟩ : ∃ q, m = q + 1 := ⟨m - 1, by omega⟩
    have g0 : (0 : Int) < ((q + 1 : Nat) : Int) := by omega
    have w1 : IntKind.i64.wrap (((q + 1 : Nat) : Int) - 1) = (q : Int) := by rw [wrap_id (by omega) (by omega)]; omega
    have hql : q < B.length := by omega
    have g2 : B[q]? = some B[q] := List.getElem?_eq_getElem hql
    have g3 : x < B[q] := by
      have a := hk.hi q hql (by omega)
      have b : B[q] ≠ x := fun e => hx (e ▸ List.getElem_mem hql)
      omega
    push_cast at g0 w1
    have w2 : IntKind.i64.wrap (q : Int) = (q : Int) := wrap_id (by omega) (by omega)
    (repeat (first
    | (apply is_ok; (case hw => simp [g0, w1, w2, g2, g3, hql]); (case he => simp [g0, w1, w2, g2, g3, hql]; exact is_rfl))
    | (apply op_no; (case hw => simp [g0, w1, w2, g2, g3, hql]))
    | refine op_nil ?_ | refine next_normal ?_ | refine go_seq ?_ | refine go_region ?_ | refine go_skip ?_ | refine go_block ?_ | refine inb_normal ?_
    | (apply go_yes; (case hc => simp [g0, w1, w2, g2, g3, hql])) | (apply go_no; (case hc => simp [g0, w1, w2, g2, g3, hql]))
    | refine go_exit ?_ | refine next_exit ?_ | refine inb_here ?_ | refine inb_past (by decide) ?_ | refine go_ret ?_ | refine next_ret ?_ | refine inb_ret ?_))
    exact ⟨q, by simp, by omega, by omega, by omega⟩
  · obtain rfl : m = k := by omega
    have r1 : B.length * 8 ≤ room := by unfold room; omega
    have r0 : B.length ≤ room := by unfold room; omega
    have r2 : (m + 1) * 8 ≤ room := by unfold room; omega
    have r3 : m + 1 ≤ room := by unfold room; omega
    have r4 : m * 8 ≤ room := by unfold room; omega
    have r5 : m ≤ room := by unfold room; omega
    have e1 : min m B.length = m := by omega
    have e2 : m + 1 + (B.length - m) = B.length + 1 := by omega
    have r6 : (B.length + 1) * 8 ≤ room := by unfold room; omega
    have r7 : B.length + 1 ≤ room := by unfold room; omega
    have t1 : ((List.take m (ints B)).all fun e => decide (e.cells.length = 1)) = true := by rw [← List.map_take, List.all_map]; simp [V.cells]
    have t2 : ((List.drop m (ints B)).all fun e => decide (e.cells.length = 1)) = true := by rw [← List.map_drop, List.all_map]; simp [V.cells]
    have t3 : List.take B.length (ints B) = ints B := List.take_of_length_le (by simp)
    by_cases hm0 : m = 0
    · subst hm0
      have g0 : ¬ (0 : Int) < ((0 : Nat) : Int) := by omega
      have e3 : 0 + 1 + B.length = B.length + 1 := by omega
      have e4 : 1 + B.length = B.length + 1 := by omega
      have r8 : (1 + B.length) * 8 ≤ room := by unfold room; omega
      have r9 : 1 + B.length ≤ room := by unfold room; omega
      have r10 : 8 ≤ room := by unfold room; omega
      have r11 : 1 ≤ room := by unfold room; omega
      (repeat (first
    | (apply is_ok; (case hw => simp [g0, r1, r0, r2, r3, r6, r7, r8, r9, r10, r11, e3, e4, t3]); (case he => simp [g0, r1, r0, r2, r3, r6, r7, r8, r9, r10, r11, e3, e4, t3]; exact is_rfl))
    | (apply op_no; (case hw => simp [g0, r1, r0, r2, r3, r6, r7, r8, r9, r10, r11, e3, e4, t3]))
    | refine op_nil ?_ | refine next_normal ?_ | refine go_seq ?_ | refine go_region ?_ | refine go_skip ?_ | refine go_block ?_ | refine inb_normal ?_
    | (apply go_yes; (case hc => simp [g0, r1, r0, r2, r3, r6, r7, r8, r9, r10, r11, e3, e4, t3])) | (apply go_no; (case hc => simp [g0, r1, r0, r2, r3, r6, r7, r8, r9, r10, r11, e3, e4, t3]))
    | refine go_exit ?_ | refine next_exit ?_ | refine inb_here ?_ | refine inb_past (by decide) ?_ | refine go_ret ?_ | refine next_ret ?_ | refine inb_ret ?_))
      (apply ends_ok; (case h1 => simp; exact is_rfl); (case h2 => simp; exact is_rfl))
      simp [e4]
    · obtain ⟨q, hq⟩ : ∃ q, q = m - 1 := ⟨_, rfl⟩
      have g0 : (0 : Int) < (m : Int) := by omega
      have g00 : 0 < m := by omega
      have w1 : IntKind.i64.wrap ((m : Int) - 1) = (q : Int) := by rw [wrap_id (by omega) (by omega)]; omega
      have hql : q < B.length := by omega
      have g2 : B[q]? = some B[q] := List.getElem?_eq_getElem hql
      have g3 : ¬ x < B[q] := by
        have a := hk.lo q hql (by omega)
        omega
      have hne : (List.take m B).isEmpty = false := by
        rw [Bool.eq_false_iff]
        intro hc
        rw [List.isEmpty_iff] at hc
        have := congrArg List.length hc
        rw [List.length_take, e1] at this
        exact hm0 this
      have hne2 : ¬ B = [] := by rintro rfl; simp at hql
      by_cases hml : m < B.length
      · have g5 : B[m]? = some B[m] := List.getElem?_eq_getElem hml
        have g6 : ¬ m = B.length := by omega
        (repeat (first
    | (apply is_ok; (case hw => simp [g0, g00, w1, g2, g3, g5, g6, hml, hql, e1, e2, r1, r0, r2, r3, r4, r5, r6, r7, hkl, hne, hm0, hne2, t1, t2, t3]); (case he => simp [g0, g00, w1, g2, g3, g5, g6, hml, hql, e1, e2, r1, r0, r2, r3, r4, r5, r6, r7, hkl, hne, hm0, hne2, t1, t2, t3]; exact is_rfl))
    | (apply op_no; (case hw => simp [g0, g00, w1, g2, g3, g5, g6, hml, hql, e1, e2, r1, r0, r2, r3, r4, r5, r6, r7, hkl, hne, hm0, hne2, t1, t2, t3]))
    | refine op_nil ?_ | refine next_normal ?_ | refine go_seq ?_ | refine go_region ?_ | refine go_skip ?_ | refine go_block ?_ | refine inb_normal ?_
    | (apply go_yes; (case hc => simp [g0, g00, w1, g2, g3, g5, g6, hml, hql, e1, e2, r1, r0, r2, r3, r4, r5, r6, r7, hkl, hne, hm0, hne2, t1, t2, t3])) | (apply go_no; (case hc => simp [g0, g00, w1, g2, g3, g5, g6, hml, hql, e1, e2, r1, r0, r2, r3, r4, r5, r6, r7, hkl, hne, hm0, hne2, t1, t2, t3]))
    | refine go_exit ?_ | refine next_exit ?_ | refine inb_here ?_ | refine inb_past (by decide) ?_ | refine go_ret ?_ | refine next_ret ?_ | refine inb_ret ?_))
        (apply ends_ok; (case h1 => simp; exact is_rfl); (case h2 => simp; exact is_rfl))
        simp [e1, e2]
      · have g6 : m = B.length := by omega
        have e5 : List.drop m B = [] := List.drop_of_length_le (by omega)
        have e6 : List.take m B = B := List.take_of_length_le (by omega)
        rw [e5, e6]
        subst g6
        (repeat (first
    | (apply is_ok; (case hw => simp [g0, g00, w1, g2, g3, hql, e1, e2, r1, r0, r2, r3, r4, r5, r6, r7, hkl, hne, hm0, hne2, t1, t2, t3]); (case he => simp [g0, g00, w1, g2, g3, hql, e1, e2, r1, r0, r2, r3, r4, r5, r6, r7, hkl, hne, hm0, hne2, t1, t2, t3]; exact is_rfl))
    | (apply op_no; (case hw => simp [g0, g00, w1, g2, g3, hql, e1, e2, r1, r0, r2, r3, r4, r5, r6, r7, hkl, hne, hm0, hne2, t1, t2, t3]))
    | refine op_nil ?_ | refine next_normal ?_ | refine go_seq ?_ | refine go_region ?_ | refine go_skip ?_ | refine go_block ?_ | refine inb_normal ?_
    | (apply go_yes; (case hc => simp [g0, g00, w1, g2, g3, hql, e1, e2, r1, r0, r2, r3, r4, r5, r6, r7, hkl, hne, hm0, hne2, t1, t2, t3])) | (apply go_no; (case hc => simp [g0, g00, w1, g2, g3, hql, e1, e2, r1, r0, r2, r3, r4, r5, r6, r7, hkl, hne, hm0, hne2, t1, t2, t3]))
    | refine go_exit ?_ | refine next_exit ?_ | refine inb_here ?_ | refine inb_past (by decide) ?_ | refine go_ret ?_ | refine next_ret ?_ | refine inb_ret ?_))
        (apply ends_ok; (case h1 => simp; exact is_rfl); (case h2 => simp; exact is_rfl))
        simp [e1, e2]
end Go.Abs
