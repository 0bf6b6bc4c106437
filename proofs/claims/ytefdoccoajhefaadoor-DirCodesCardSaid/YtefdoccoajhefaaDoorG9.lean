/- Proved here: what functions of the program compute, over the evaluator. No condition but those that each theorem states. -/
import Derived.Test.YtefdoccoajhefaaDoorG8
namespace Go.Abs
open Go.Proofs
set_option maxRecDepth 100000
set_option linter.unusedSimpArgs false
set_option linter.unusedVariables false

theorem cb_spec : ∀ a b : List UInt8, (Lib.compareBytes a b < 0 ↔ Op.bytesLess a b = true) ∧ (Lib.compareBytes a b = 0 ↔ a = b)
  | [], [] => by simp [Lib.compareBytes, Op.bytesLess]
  | [], _ :: _ => by simp [Lib.compareBytes, Op.bytesLess]
  | _ :: _, [] => by simp [Lib.compareBytes, Op.bytesLess]
  | a :: x, b :: y => by
    have ih := cb_spec x y
    rw [Lib.compareBytes, Op.bytesLess]
    by_cases h1 : a < b
    · have : ¬ a = b := fun h => by subst h; exact absurd h1 (UInt8.lt_irrefl a)
      simp [h1, this]
    · by_cases h2 : b < a
      · have : ¬ a = b := fun h => by subst h; exact absurd h2 (UInt8.lt_irrefl a)
        simp [h1, h2, this]
      · have : a = b := by
          apply UInt8.toNat_inj.1
          rw [UInt8.lt_iff_toNat_lt] at h1 h2
          omega
        subst this
        simp [h1, ih]

theorem cmp_eq (p : List UInt8 × Int) (s : List UInt8) : bodyW DC 56 [.agg [.str p.1, .int .i64 p.2], .str s] [] = some (.int .i64 (Lib.compareBytes p.1 s), []) := by
  have h : compareX [.str p.1, .str s] = some (.int .i64 (Lib.compareBytes p.1 s), []) := rfl
  (refine gives_iff ?_; refine go_func Tryd.f56 rfl rfl (by simp [Tryd.f56]) ?_; dsimp only [codeL, Tryd.f56, scL, sopsL, guardL, dstAt, loopKey])
  (repeat (first
    | (apply is_ok; (case hw => simp [h, entV]); (case he => simp [h, entV]; exact is_rfl))
    | (apply op_no; (case hw => simp [h, entV]))
    | refine op_nil ?_ | refine next_normal ?_ | refine go_seq ?_ | refine go_region ?_ | refine go_skip ?_ | refine go_block ?_ | refine inb_normal ?_
    | (apply go_yes; (case hc => simp [h, entV])) | (apply go_no; (case hc => simp [h, entV]))
    | refine go_exit ?_ | refine next_exit ?_ | refine inb_here ?_ | refine inb_past (by decide) ?_ | refine go_ret ?_ | refine next_ret ?_ | refine inb_ret ?_))
  (apply ends_ok; (case h1 => simp; exact is_rfl); (case h2 => simp; exact is_rfl))
  simp

def SortE (l : List (List UInt8 × Int)) : Prop := l.Pairwise fun p q => Op.bytesLess p.1 q.1 = true
theorem validB_sort : ∀ (l : List (List UInt8 × Int)) (last : List UInt8), validB last l = true → (∀ p ∈ l, Op.bytesLess last p.1 = true) ∧ SortE l ∧ ∀ p ∈ l, entOk p = true
  | [], last, _ => by simp [SortE]
  | p :: l, last, h => by
    rw [validB, Bool.and_eq_true, Bool.and_eq_true] at h
    obtain ⟨⟨h1, h2⟩, h3⟩ := h
    obtain ⟨h4, h5, h6⟩ := validB_sort l p.1 h3
    refine ⟨fun q hq => ?_, List.pairwise_cons.2 ⟨h4, h5⟩, fun q hq => ?_⟩
    · rcases List.mem_cons.1 hq with rfl | hq
      · exact h2
      · exact bl_trans h2 (h4 q hq)
    · rcases List.mem_cons.1 hq with rfl | hq
      · exact h1
      · exact h6 q hq
theorem sort_validB : ∀ (l : List (List UInt8 × Int)) (last : List UInt8), (∀ p ∈ l, Op.bytesLess last p.1 = true) → SortE l → (∀ p ∈ l, entOk p = true) → validB last l = true
  | [], last, _, _, _ => rfl
  | p :: l, last, h1, h2, h3 => by
    rw [validB, h3 p (by simp), h1 p (by simp), sort_validB l p.1 (List.pairwise_cons.1 h2).1 (List.pairwise_cons.1 h2).2 fun q hq => h3 q (by simp [hq])]
    rfl
theorem sort_lt {l : List (List UInt8 × Int)} (h : SortE l) {i j : Nat} (hij : i < j) (hj : j < l.length) : Op.bytesLess (l[i]'(by omega)).1 l[j].1 = true := by
  exact List.pairwise_iff_getElem.1 h i j (by omega) hj hij

/-- Where a name stands, or would stand. -/
structure PosE (l : List (List UInt8 × Int)) (s : List UInt8) (k : Nat) : Prop where
  le : k ≤ l.length
  lo : ∀ i (h : i < l.length), i < k → Op.bytesLess l[i].1 s = true
  hi : ∀ i (h : i < l.length), k ≤ i → Op.bytesLess l[i].1 s = false
theorem PosE.uniq {l : List (List UInt8 × Int)} {s : List UInt8} {k m : Nat} (h : PosE l s k) (h' : PosE l s m) : k = m := by
  rcases Nat.lt_trichotomy k m with h1 | h1 | h1
  · have := h'.le
    have a := h.hi k (by omega) (Nat.le_refl _)
    rw [h'.lo k (by omega) h1] at a
    cases a
  · exact h1
  · have := h.le
    have a := h'.hi m (by omega) (Nat.le_refl _)
    rw [h.lo m (by omega) h1] at a
    cases a

theorem pos_ex (s : List UInt8) : ∀ (l : List (List UInt8 × Int)), SortE l → ∃ k, PosE l s k
  | [], _ => ⟨0, ⟨by simp, fun i h => by simp at h, fun i h => by simp at h⟩⟩
  | p :: l, h => by
    obtain ⟨h1, h2⟩ := List.pairwise_cons.1 h
    obtain ⟨k, hk⟩ := pos_ex s l h2
    cases hb : Op.bytesLess p.1 s with
    | true =>
      refine ⟨k + 1, ⟨by simpa using hk.le, fun i hi hik => ?_, fun i hi hik => ?_⟩⟩
      · cases i with
        | zero => exact hb
        | succ i => exact hk.lo i (by simpa using hi) (by omega)
      · cases i with
        | zero => omega
        | succ i => exact hk.hi i (by simpa using hi) (by omega)
    | false =>
      refine ⟨0, ⟨by simp, fun i hi hik => by omega, fun i hi hik => ?_⟩⟩
      cases i with
      | zero => exact hb
      | succ i =>
        show Op.bytesLess (l[i]'(by simpa using hi)).1 s = false
        rw [Bool.eq_false_iff]
        intro hc
        rw [bl_trans (h1 _ (List.getElem_mem (by simpa using hi))) hc] at hb
        cases hb

theorem wrap_idu {x : Int} (h : 0 ≤ x) (h' : x ≤ 9223372036854775807) : IntKind.u64.wrap x = x := by
  have e : IntKind.u64.wrap x = x % 18446744073709551616 := by simp [IntKind.wrap, IntKind.bits, IntKind.signed]
  rw [e]
  exact Int.emod_eq_of_lt h (by omega)

theorem BSF_eq (l : List (List UInt8 × Int)) (hl : l.length ≤ 1000000) (hs : SortE l) (s : List UInt8) : ∃ k, PosE l s k ∧
    bodyW DC 55 [.sl (l.map entV), .str s, .fn 56 []] [] = some (.tuple [.int .i64 k, .bool (decide (l[k]?.map (·.1) = some s))], []) := by
  obtain ⟨k, hk⟩ := pos_ex s l hs
  refine ⟨k, hk, ?_⟩
  (refine gives_iff ?_; refine go_func Tryd.f55 rfl rfl (by simp [Tryd.f55]) ?_; dsimp only [codeL, Tryd.f55, scL, sopsL, guardL, dstAt, loopKey])
  (repeat (first
    | (apply is_ok; (case hw => simp); (case he => simp; exact is_rfl))
    | (apply op_no; (case hw => simp))
    | refine op_nil ?_ | refine next_normal ?_ | refine go_seq ?_ | refine go_region ?_ | refine go_skip ?_ | refine go_block ?_ | refine inb_normal ?_
    | (apply go_yes; (case hc => simp)) | (apply go_no; (case hc => simp))
    | refine go_exit ?_ | refine next_exit ?_ | refine inb_here ?_ | refine inb_past (by decide) ?_ | refine go_ret ?_ | refine next_ret ?_ | refine inb_ret ?_))
  refine go_while (σ := Nat × Nat) (fun q => [(0, .sl (l.map entV)), (1, .str s), (2, .fn 56 []), (8, .int .i64 l.length), (9, .int .i64 q.1), (10, .int .i64 q.2)]) (fun _ => [])
    (fun q => q.1 ≤ k ∧ k ≤ q.2 ∧ q.2 ≤ l.length) (fun q => q.2 - q.1) (0, l.length) (by simp) ⟨by simp, hk.le, by simp⟩ fun q hq => ?_
  obtain ⟨i, j⟩ := q
  obtain ⟨h1, h2, h3⟩ := hq
  simp only at h1 h2 h3
  by_cases hlt : i < j
  · have g1 : (i : Int) < j := by omega
    generalize hm : (i + j) / 2 = m
    have hm1 : i ≤ m := by omega
    have hm2 : m < j := by omega
    have hm3 : m < l.length := by omega
    have g2 : (m : Int) < l.length := by omega
    have g3 : l[m]? = some l[m] := List.getElem?_eq_getElem hm3
    have w1 : IntKind.i64.wrap ((i : Int) + j) = (i : Int) + j := wrap_id (by omega) (by omega)
    have w2 : IntKind.u64.wrap ((i : Int) + j) = (i : Int) + j := wrap_idu (by omega) (by omega)
    have w3 : ((i : Int) + j).fdiv 2 = m := by rw [Int.fdiv_eq_ediv_of_nonneg _ (by omega)]; omega
    have w4 : IntKind.u64.wrap (m : Int) = m := wrap_idu (by omega) (by omega)
    have w5 : IntKind.i64.wrap (m : Int) = m := wrap_id (by omega) (by omega)
    have w6 : IntKind.i64.wrap ((m : Int) + 1) = m + 1 := wrap_id (by omega) (by omega)
    have v1 := cmp_eq l[m] s
    have v2 := (cb_spec l[m].1 s).1
    have v3 := hk.lo m hm3
    have v4 := hk.hi m hm3
    generalize Lib.compareBytes l[m].1 s = c at v1 v2
    by_cases hc : c < 0
    · have : m < k := by
        rcases Nat.lt_or_ge m k with h | h
        · exact h
        · have := v4 h
          rw [v2.1 hc] at this
          cases this
      (repeat (first
    | (apply is_ok; (case hw => simp [g1, g2, g3, w1, w2, w3, w4, w5, w6, hlt, hm3, v1, hc, entV]); (case he => simp [g1, g2, g3, w1, w2, w3, w4, w5, w6, hlt, hm3, v1, hc, entV]; exact is_rfl))
    | (apply op_no; (case hw => simp [g1, g2, g3, w1, w2, w3, w4, w5, w6, hlt, hm3, v1, hc, entV]))
    | refine op_nil ?_ | refine next_normal ?_ | refine go_seq ?_ | refine go_region ?_ | refine go_skip ?_ | refine go_block ?_ | refine inb_normal ?_
    | (apply go_yes; (case hc => simp [g1, g2, g3, w1, w2, w3, w4, w5, w6, hlt, hm3, v1, hc, entV])) | (apply go_no; (case hc => simp [g1, g2, g3, w1, w2, w3, w4, w5, w6, hlt, hm3, v1, hc, entV]))
    | refine go_exit ?_ | refine next_exit ?_ | refine inb_here ?_ | refine inb_past (by decide) ?_ | refine go_ret ?_ | refine next_ret ?_ | refine inb_ret ?_))
      exact ⟨(m + 1, j), by simp [entV, w6], by simp; omega, by simp only; omega, by simp only; omega, by simp only; omega⟩
    · have : k ≤ m := by
        rcases Nat.lt_or_ge m k with h | h
        · exact absurd (v2.2 (v3 h)) hc
        · exact h
      (repeat (first
    | (apply is_ok; (case hw => simp [g1, g2, g3, w1, w2, w3, w4, w5, w6, hlt, hm3, v1, hc, entV]); (case he => simp [g1, g2, g3, w1, w2, w3, w4, w5, w6, hlt, hm3, v1, hc, entV]; exact is_rfl))
    | (apply op_no; (case hw => simp [g1, g2, g3, w1, w2, w3, w4, w5, w6, hlt, hm3, v1, hc, entV]))
    | refine op_nil ?_ | refine next_normal ?_ | refine go_seq ?_ | refine go_region ?_ | refine go_skip ?_ | refine go_block ?_ | refine inb_normal ?_
    | (apply go_yes; (case hc => simp [g1, g2, g3, w1, w2, w3, w4, w5, w6, hlt, hm3, v1, hc, entV])) | (apply go_no; (case hc => simp [g1, g2, g3, w1, w2, w3, w4, w5, w6, hlt, hm3, v1, hc, entV]))
    | refine go_exit ?_ | refine next_exit ?_ | refine inb_here ?_ | refine inb_past (by decide) ?_ | refine go_ret ?_ | refine next_ret ?_ | refine inb_ret ?_))
      exact ⟨(i, m), by simp [entV], by simp; omega, by simp only; omega, by simp only; omega, by simp only; omega⟩
  · have : i = k := by omega
    subst this
    have g1 : ¬ (i : Int) < j := by omega
    by_cases hk1 : i < l.length
    · have g2 : (i : Int) < l.length := by omega
      have g3 : l[i]? = some l[i] := List.getElem?_eq_getElem hk1
      have v1 := cmp_eq l[i] s
      have v2 := (cb_spec l[i].1 s).2
      generalize Lib.compareBytes l[i].1 s = c at v1 v2
      (repeat (first
    | (apply is_ok; (case hw => simp [g1, g2, g3, hlt, hk1, v1, entV]); (case he => simp [g1, g2, g3, hlt, hk1, v1, entV]; exact is_rfl))
    | (apply op_no; (case hw => simp [g1, g2, g3, hlt, hk1, v1, entV]))
    | refine op_nil ?_ | refine next_normal ?_ | refine go_seq ?_ | refine go_region ?_ | refine go_skip ?_ | refine go_block ?_ | refine inb_normal ?_
    | (apply go_yes; (case hc => simp [g1, g2, g3, hlt, hk1, v1, entV])) | (apply go_no; (case hc => simp [g1, g2, g3, hlt, hk1, v1, entV]))
    | refine go_exit ?_ | refine next_exit ?_ | refine inb_here ?_ | refine inb_past (by decide) ?_ | refine go_ret ?_ | refine next_ret ?_ | refine inb_ret ?_))
      (apply ends_ok; (case h1 => simp; exact is_rfl); (case h2 => simp; exact is_rfl))
      simp [g3, ← v2]
      rw [Bool.eq_iff_iff]
      simp
    · have g2 : ¬ (i : Int) < l.length := by omega
      have g3 : l[i]? = none := List.getElem?_eq_none (by omega)
      (repeat (first
    | (apply is_ok; (case hw => simp [g1, g2, g3, hlt, hk1]); (case he => simp [g1, g2, g3, hlt, hk1]; exact is_rfl))
    | (apply op_no; (case hw => simp [g1, g2, g3, hlt, hk1]))
    | refine op_nil ?_ | refine next_normal ?_ | refine go_seq ?_ | refine go_region ?_ | refine go_skip ?_ | refine go_block ?_ | refine inb_normal ?_
    | (apply go_yes; (case hc => simp [g1, g2, g3, hlt, hk1])) | (apply go_no; (case hc => simp [g1, g2, g3, hlt, hk1]))
    | refine go_exit ?_ | refine next_exit ?_ | refine inb_here ?_ | refine inb_past (by decide) ?_ | refine go_ret ?_ | refine next_ret ?_ | refine inb_ret ?_))
      (apply ends_ok; (case h1 => simp; exact is_rfl); (case h2 => simp; exact is_rfl))
      simp [g3]

theorem place_eq (l : List (List UInt8 × Int)) (hl : l.length ≤ 1000000) (hs : SortE l) (s : List UInt8) : ∃ k, PosE l s k ∧
    bodyW DC 39 [.sl (l.map entV), .str s] [] = some (.tuple [.int .i64 k, .bool (decide (l[k]?.map (·.1) = some s))], []) := by
  obtain ⟨k, hk, h⟩ := BSF_eq l hl hs s
  refine ⟨k, hk, ?_⟩
  generalize decide (l[k]?.map (·.1) = some s) = b at h
  (refine gives_iff ?_; refine go_func Tryd.f39 rfl rfl (by simp [Tryd.f39]) ?_; dsimp only [codeL, Tryd.f39, scL, sopsL, guardL, dstAt, loopKey])
  (repeat (first
    | (apply is_ok; (case hw => simp [h]); (case he => simp [h]; exact is_rfl))
    | (apply op_no; (case hw => simp [h]))
    | refine op_nil ?_ | refine next_normal ?_ | refine go_seq ?_ | refine go_region ?_ | refine go_skip ?_ | refine go_block ?_ | refine inb_normal ?_
    | (apply go_yes; (case hc => simp [h])) | (apply go_no; (case hc => simp [h]))
    | refine go_exit ?_ | refine next_exit ?_ | refine inb_here ?_ | refine inb_past (by decide) ?_ | refine go_ret ?_ | refine next_ret ?_ | refine inb_ret ?_))
  (apply ends_ok; (case h1 => simp; exact is_rfl); (case h2 => simp; exact is_rfl))
  simp

theorem pos_idx {l : List (List UInt8 × Int)} {s : List UInt8} {k : Nat} (hs : SortE l) (h : PosE l s k) : idxE s l = if l[k]?.map (·.1) = some s then some k else none := by
  by_cases hc : l[k]?.map (·.1) = some s
  · rw [if_pos hc]
    rw [Option.map_eq_some_iff] at hc
    obtain ⟨p, h1, h2⟩ := hc
    obtain ⟨h3, h4⟩ := List.getElem?_eq_some_iff.1 h1
    refine idxE_at h3 (by rw [h4]; exact h2) fun q hq hqs => ?_
    obtain ⟨i, hi, rfl⟩ := List.mem_iff_getElem.1 hq
    have hi2 : i < k := by simp at hi; omega
    rw [List.getElem_take] at hqs
    have := h.lo i (by omega) hi2
    rw [hqs, bl_irr] at this
    cases this
  · rw [if_neg hc, idxE_none]
    intro q hq hqs
    obtain ⟨i, hi, rfl⟩ := List.mem_iff_getElem.1 hq
    rcases Nat.lt_trichotomy i k with h1 | h1 | h1
    · have := h.lo i hi h1
      rw [hqs, bl_irr] at this
      cases this
    · subst h1
      exact hc (by rw [List.getElem?_eq_getElem hi]; simp [hqs])
    · have h2 := h.hi k (by omega) (Nat.le_refl _)
      have h3 := sort_lt hs h1 hi
      rw [hqs, h2] at h3
      cases h3
end Go.Abs
