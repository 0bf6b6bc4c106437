/- Proved here: what functions of the program compute, over the evaluator. No condition but those that each theorem states. -/
import Derived.Test.YtefdoccoajhefaaDoorG2
namespace Go.Abs
open Go.Proofs
set_option maxRecDepth 100000
set_option linter.unusedSimpArgs false
set_option linter.unusedVariables false

/-- The names of the rest of a path, with the part that was begun. -/
def runS : List UInt8 → List UInt8 → List (List UInt8) → Option (List (List UInt8))
  | cur, [], L => if cur = [] then some L else if nameOk cur = true then some (L ++ [cur]) else none
  | cur, c :: r, L => if c ≠ 47 then runS (cur ++ [c]) r L else if cur = [] then runS [] r L else if nameOk cur = true then runS [] r (L ++ [cur]) else none

theorem cutA_all {a b : List UInt8} (h : ∀ x ∈ a, x ≠ 47) : cutA (a ++ 47 :: b) = a ∧ cutB (a ++ 47 :: b) = b := by
  induction a with
  | nil => simp [cutA, cutB]
  | cons x a ih =>
    have hx := h x (by simp)
    have := ih fun y hy => h y (by simp [hy])
    simp only [cutA, cutB] at this ⊢
    simp [hx, this]
theorem cutA_end {a : List UInt8} (h : ∀ x ∈ a, x ≠ 47) : cutA a = a ∧ cutB a = [] := by
  induction a with
  | nil => simp [cutA, cutB]
  | cons x a ih =>
    have hx := h x (by simp)
    have := ih fun y hy => h y (by simp [hy])
    simp only [cutA, cutB] at this ⊢
    simp [hx, this]

theorem runS_eq : ∀ (rest cur : List UInt8) (L : List (List UInt8)) (n : Nat), (∀ x ∈ cur, x ≠ 47) → cur.length + rest.length ≤ n →
    runS cur rest L = if (partsF n (cur ++ rest)).all nameOk then some (L ++ partsF n (cur ++ rest)) else none
  | [], cur, L, n, hc, hn => by
    rw [List.append_nil, runS]
    cases n with
    | zero =>
      have : cur = [] := List.length_eq_zero_iff.1 (by omega)
      subst this
      simp [partsF]
    | succ n =>
      rw [partsF, (cutA_end hc).1, (cutA_end hc).2]
      by_cases h0 : cur = []
      · simp [h0]
      · rw [if_neg h0, if_neg h0, if_neg h0]
        have : partsF n [] = [] := by cases n <;> simp [partsF]
        rw [this]
        by_cases hk : nameOk cur = true <;> simp [hk]
  | c :: r, cur, L, n, hc, hn => by
    rw [runS]
    by_cases h47 : c = 47
    · subst h47
      simp only [ne_eq, not_true_eq_false, if_false]
      cases n with
      | zero => simp at hn
      | succ n =>
        rw [List.length_cons] at hn
        rw [partsF, (cutA_all hc).1, (cutA_all hc).2, if_neg (show ¬ cur ++ 47 :: r = [] by simp)]
        by_cases h0 : cur = []
        · subst h0
          rw [if_pos rfl, if_pos rfl]
          exact runS_eq r [] L n (by simp) (by simp at hn ⊢; omega)
        · rw [if_neg h0, if_neg h0]
          by_cases hk : nameOk cur = true
          · rw [if_pos hk, runS_eq r [] (L ++ [cur]) n (by simp) (by simp; omega)]
            simp [hk]
          · simp [hk]
    · rw [if_pos h47, runS_eq r (cur ++ [c]) L n (fun x hx => by
        rcases List.mem_append.1 hx with h | h
        · exact hc x h
        · simp at h; subst h; exact h47) (by simp at hn ⊢; omega)]
      simp

theorem sub_snoc {s : List UInt8} {j i : Nat} (hj : j ≤ i) (hi : i < s.length) : (s.take i).drop j ++ [s[i]] = (s.take (i + 1)).drop j := by
  rw [List.take_succ_eq_append_getElem hi, List.drop_append_of_le_length (by simp; omega)]

def splitR (s : List UInt8) : V × Heap := if s = [] then (.tuple [.bool false, .own 0 0 0 0, .int .i64 4], [.dat true 1 []]) else if 256 < s.length then (.tuple [.bool false, .own 0 0 0 0, .int .i64 7], [.dat true 1 []])
  else match runS [] s [] with
    | some L => (.tuple [.bool (s.head? == some 47), .own 0 L.length 0 L.length, .int .i64 0], [.dat true 1 (L.map V.str)])
    | none => (.tuple [.bool false, .own 0 0 0 0, .int .i64 4], [.dat true 1 []])

theorem refSplit_eq (s : List UInt8) : bodyW DC 10 [.str s] [] = some (splitR s) := by
  unfold splitR
  by_cases h0 : s = []
  · subst h0
    (refine gives_iff ?_; refine go_func Tryd.f10 rfl rfl (by simp [Tryd.f10]) ?_; dsimp only [codeL, Tryd.f10, scL, sopsL, guardL, dstAt, loopKey])
    (repeat (first
    | (apply is_ok; (case hw => simp); (case he => simp; exact is_rfl))
    | (apply op_no; (case hw => simp))
    | refine op_nil ?_ | refine next_normal ?_ | refine go_seq ?_ | refine go_region ?_ | refine go_skip ?_ | refine go_block ?_ | refine inb_normal ?_
    | (apply go_yes; (case hc => simp)) | (apply go_no; (case hc => simp))
    | refine go_exit ?_ | refine next_exit ?_ | refine inb_here ?_ | refine inb_past (by decide) ?_ | refine go_ret ?_ | refine next_ret ?_ | refine inb_ret ?_))
    (apply ends_ok; (case h1 => simp; exact is_rfl); (case h2 => simp; exact is_rfl))
    simp
  rw [if_neg h0]
  by_cases h1 : 256 < s.length
  · rw [if_pos h1]
    have h1' : (256 : Int) < s.length := by omega
    (refine gives_iff ?_; refine go_func Tryd.f10 rfl rfl (by simp [Tryd.f10]) ?_; dsimp only [codeL, Tryd.f10, scL, sopsL, guardL, dstAt, loopKey])
    (repeat (first
    | (apply is_ok; (case hw => simp [h0, h1']); (case he => simp [h0, h1']; exact is_rfl))
    | (apply op_no; (case hw => simp [h0, h1']))
    | refine op_nil ?_ | refine next_normal ?_ | refine go_seq ?_ | refine go_region ?_ | refine go_skip ?_ | refine go_block ?_ | refine inb_normal ?_
    | (apply go_yes; (case hc => simp [h0, h1'])) | (apply go_no; (case hc => simp [h0, h1']))
    | refine go_exit ?_ | refine next_exit ?_ | refine inb_here ?_ | refine inb_past (by decide) ?_ | refine go_ret ?_ | refine next_ret ?_ | refine inb_ret ?_))
    (apply ends_ok; (case h1 => simp; exact is_rfl); (case h2 => simp; exact is_rfl))
    simp
  rw [if_neg h1]
  have h1' : ¬ (256 : Int) < s.length := by omega
  generalize hR : runS [] s [] = R
  (refine gives_iff ?_; refine go_func Tryd.f10 rfl rfl (by simp [Tryd.f10]) ?_; dsimp only [codeL, Tryd.f10, scL, sopsL, guardL, dstAt, loopKey])
  (repeat (first
    | (apply is_ok; (case hw => simp [h0, h1']); (case he => simp [h0, h1']; exact is_rfl))
    | (apply op_no; (case hw => simp [h0, h1']))
    | refine op_nil ?_ | refine next_normal ?_ | refine go_seq ?_ | refine go_region ?_ | refine go_skip ?_ | refine go_block ?_ | refine inb_normal ?_
    | (apply go_yes; (case hc => simp [h0, h1'])) | (apply go_no; (case hc => simp [h0, h1']))
    | refine go_exit ?_ | refine next_exit ?_ | refine inb_here ?_ | refine inb_past (by decide) ?_ | refine go_ret ?_ | refine next_ret ?_ | refine inb_ret ?_))
  refine go_while (σ := Nat × Nat × List (List UInt8)) (fun q => [(0, .str s), (5, .own 0 q.2.2.length 0 q.2.2.length), (6, .int .i64 q.2.1), (7, .int .i64 q.1)]) (fun q => [.dat true 1 (q.2.2.map V.str)])
    (fun q => q.2.2.length ≤ q.1 ∧ (q.1 ≤ s.length ∧ q.2.1 ≤ q.1 ∧ runS ((s.take q.1).drop q.2.1) (s.drop q.1) q.2.2 = R ∨ q.1 = s.length + 1 ∧ R = some q.2.2)) (fun q => s.length + 1 - q.1) (0, 0, []) (by simp) ⟨by simp, .inl ⟨by simp, by simp, by simpa using hR⟩⟩ fun q hq => ?_
  obtain ⟨i, j, L⟩ := q
  obtain ⟨hL, hq⟩ := hq
  simp only at hL hq
  rcases hq with ⟨hi, hj, hq⟩ | ⟨hi, hq⟩
  case inr =>
    subst hi
    subst hq
    have g1 : ¬ ((s.length : Int) + 1) ≤ s.length := by omega
    have g2 : 0 < s.length := List.length_pos_iff.2 h0
    have g3 : s[0]? = some s[0] := List.getElem?_eq_getElem g2
    (repeat (first
    | (apply is_ok; (case hw => simp [g1, g2, g3]); (case he => simp [g1, g2, g3]; exact is_rfl))
    | (apply op_no; (case hw => simp [g1, g2, g3]))
    | refine op_nil ?_ | refine next_normal ?_ | refine go_seq ?_ | refine go_region ?_ | refine go_skip ?_ | refine go_block ?_ | refine inb_normal ?_
    | (apply go_yes; (case hc => simp [g1, g2, g3])) | (apply go_no; (case hc => simp [g1, g2, g3]))
    | refine go_exit ?_ | refine next_exit ?_ | refine inb_here ?_ | refine inb_past (by decide) ?_ | refine go_ret ?_ | refine next_ret ?_ | refine inb_ret ?_))
    (apply ends_ok; (case h1 => simp; exact is_rfl); (case h2 => simp; exact is_rfl))
    have g5 : ((s[0].toNat : Int) == 47) = (s.head? == some 47) := by
      cases s with
      | nil => exact absurd rfl h0
      | cons c r =>
        rw [Bool.eq_iff_iff]
        simp only [List.getElem_cons_zero, List.head?_cons, beq_iff_eq, Option.some.injEq]
        rw [← UInt8.toNat_inj]
        show _ ↔ c.toNat = 47
        omega
    exact ⟨by rw [g5], rfl⟩
  have g1 : (i : Int) ≤ s.length := by omega
  have w1 : IntKind.i64.wrap ((i : Int) + 1) = (i : Int) + 1 := wrap_id (by omega) (by omega)
  have stp : (i < s.length ∧ s[i]? ≠ some 47) ∨ (runS ((s.take i).drop j) (s.drop i) L = if (s.take i).drop j = [] then (if i < s.length then runS [] (s.drop (i + 1)) L else some L) else if nameOk ((s.take i).drop j) = true then (if i < s.length then runS [] (s.drop (i + 1)) (L ++ [(s.take i).drop j]) else some (L ++ [(s.take i).drop j])) else none) := by
    by_cases hlt : i < s.length
    · rw [List.drop_eq_getElem_cons hlt, runS, List.getElem?_eq_getElem hlt]
      by_cases h47 : s[i] = 47
      · right
        rw [if_neg (by simpa using h47), if_pos hlt, if_pos hlt]
      · left
        exact ⟨hlt, by simpa using h47⟩
    · right
      rw [show s.drop i = [] from List.drop_eq_nil_of_le (by omega), runS, if_neg hlt, if_neg hlt]
  by_cases hA : i < s.length ∧ s[i]? ≠ some 47
  · obtain ⟨hlt, h47⟩ := hA
    have g2 : (i : Int) < s.length := by omega
    have g3 : s[i]? = some s[i] := List.getElem?_eq_getElem hlt
    have g4 : ¬ (s[i].toNat : Int) = 47 := fun h => h47 (by rw [g3]; congr 1; apply UInt8.toNat_inj.1; show _ = 47; omega)
    have g5 : ¬ s[i] = 47 := fun h => h47 (by rw [g3, h])
    have g6 : runS ((s.take i).drop j) (s.drop i) L = runS ((s.take (i + 1)).drop j) (s.drop (i + 1)) L := by
      rw [List.drop_eq_getElem_cons hlt, runS, if_pos g5, sub_snoc hj hlt]
    (repeat (first
    | (apply is_ok; (case hw => simp [g1, g2, g3, g4, hlt]); (case he => simp [g1, g2, g3, g4, hlt]; exact is_rfl))
    | (apply op_no; (case hw => simp [g1, g2, g3, g4, hlt]))
    | refine op_nil ?_ | refine next_normal ?_ | refine go_seq ?_ | refine go_region ?_ | refine go_skip ?_ | refine go_block ?_ | refine inb_normal ?_
    | (apply go_yes; (case hc => simp [g1, g2, g3, g4, hlt])) | (apply go_no; (case hc => simp [g1, g2, g3, g4, hlt]))
    | refine go_exit ?_ | refine next_exit ?_ | refine inb_here ?_ | refine inb_past (by decide) ?_ | refine go_ret ?_ | refine next_ret ?_ | refine inb_ret ?_))
    exact ⟨(i + 1, j, L), by simp [w1], by simp; omega, by simp; omega, .inl ⟨by simp only; omega, by simp only; omega, by rw [← g6]; exact hq⟩⟩
  have hB := stp.resolve_left hA
  rw [hq] at hB
  have q1 : (j : Int) ≤ i := by omega
  have q2 : (0 : Int) ≤ j := by omega
  have q3 : ((i : Int) + 1).toNat = i + 1 := by omega
  have r1 : L.length + 1 ≤ room := by unfold room; omega
  have r2 : (L.length + 1) * 16 ≤ room := by unfold room; omega
  generalize hp : (s.take i).drop j = p at hB hq
  by_cases hlt : i < s.length
  · have g2 : (i : Int) < s.length := by omega
    have g3 : s[i]? = some s[i] := List.getElem?_eq_getElem hlt
    have g4 : (s[i].toNat : Int) = 47 := by
      have : s[i]? = some 47 := Classical.byContradiction fun h => hA ⟨hlt, h⟩
      rw [g3] at this
      have := Option.some.inj this
      rw [this]; rfl
    rw [if_pos hlt, if_pos hlt] at hB
    by_cases hp0 : p = []
    · rw [if_pos hp0] at hB
      subst hp0
      (repeat (first
    | (apply is_ok; (case hw => simp [g1, g2, g3, g4, hlt, hi, hj, q1, q2, hp, w1, q3]); (case he => simp [g1, g2, g3, g4, hlt, hi, hj, q1, q2, hp, w1, q3]; exact is_rfl))
    | (apply op_no; (case hw => simp [g1, g2, g3, g4, hlt, hi, hj, q1, q2, hp, w1, q3]))
    | refine op_nil ?_ | refine next_normal ?_ | refine go_seq ?_ | refine go_region ?_ | refine go_skip ?_ | refine go_block ?_ | refine inb_normal ?_
    | (apply go_yes; (case hc => simp [g1, g2, g3, g4, hlt, hi, hj, q1, q2, hp, w1, q3])) | (apply go_no; (case hc => simp [g1, g2, g3, g4, hlt, hi, hj, q1, q2, hp, w1, q3]))
    | refine go_exit ?_ | refine next_exit ?_ | refine inb_here ?_ | refine inb_past (by decide) ?_ | refine go_ret ?_ | refine next_ret ?_ | refine inb_ret ?_))
      exact ⟨(i + 1, i + 1, L), by simp [w1], by simp; omega, by simp; omega, .inl ⟨by simp only; omega, by simp, by rw [hB]; simp⟩⟩
    rw [if_neg hp0] at hB
    by_cases hk : nameOk p = true
    · rw [if_pos hk] at hB
      have hv := refValid_eq p
      rw [hk] at hv
      (repeat (first
    | (apply is_ok; (case hw => simp [g1, g2, g3, g4, hlt, hi, hj, q1, q2, hp, hp0, hv, w1, q3, r1, r2]); (case he => simp [g1, g2, g3, g4, hlt, hi, hj, q1, q2, hp, hp0, hv, w1, q3, r1, r2]; exact is_rfl))
    | (apply op_no; (case hw => simp [g1, g2, g3, g4, hlt, hi, hj, q1, q2, hp, hp0, hv, w1, q3, r1, r2]))
    | refine op_nil ?_ | refine next_normal ?_ | refine go_seq ?_ | refine go_region ?_ | refine go_skip ?_ | refine go_block ?_ | refine inb_normal ?_
    | (apply go_yes; (case hc => simp [g1, g2, g3, g4, hlt, hi, hj, q1, q2, hp, hp0, hv, w1, q3, r1, r2])) | (apply go_no; (case hc => simp [g1, g2, g3, g4, hlt, hi, hj, q1, q2, hp, hp0, hv, w1, q3, r1, r2]))
    | refine go_exit ?_ | refine next_exit ?_ | refine inb_here ?_ | refine inb_past (by decide) ?_ | refine go_ret ?_ | refine next_ret ?_ | refine inb_ret ?_))
      exact ⟨(i + 1, i + 1, L ++ [p]), by simp [w1], by simp; omega, by simp; omega, .inl ⟨by simp only; omega, by simp, by rw [hB]; simp⟩⟩
    · rw [if_neg hk] at hB
      have hv := refValid_eq p
      rw [show nameOk p = false by simpa using hk] at hv
      (repeat (first
    | (apply is_ok; (case hw => simp [g1, g2, g3, g4, hlt, hi, hj, q1, q2, hp, hp0, hv, w1, q3]); (case he => simp [g1, g2, g3, g4, hlt, hi, hj, q1, q2, hp, hp0, hv, w1, q3]; exact is_rfl))
    | (apply op_no; (case hw => simp [g1, g2, g3, g4, hlt, hi, hj, q1, q2, hp, hp0, hv, w1, q3]))
    | refine op_nil ?_ | refine next_normal ?_ | refine go_seq ?_ | refine go_region ?_ | refine go_skip ?_ | refine go_block ?_ | refine inb_normal ?_
    | (apply go_yes; (case hc => simp [g1, g2, g3, g4, hlt, hi, hj, q1, q2, hp, hp0, hv, w1, q3])) | (apply go_no; (case hc => simp [g1, g2, g3, g4, hlt, hi, hj, q1, q2, hp, hp0, hv, w1, q3]))
    | refine go_exit ?_ | refine next_exit ?_ | refine inb_here ?_ | refine inb_past (by decide) ?_ | refine go_ret ?_ | refine next_ret ?_ | refine inb_ret ?_))
      (apply ends_ok; (case h1 => simp; exact is_rfl); (case h2 => simp; exact is_rfl))
      simp [hB]
  · have g2 : ¬ (i : Int) < s.length := by omega
    rw [if_neg hlt, if_neg hlt] at hB
    by_cases hp0 : p = []
    · rw [if_pos hp0] at hB
      subst hp0
      (repeat (first
    | (apply is_ok; (case hw => simp [g1, g2, hlt, hi, hj, q1, q2, hp, w1, q3]); (case he => simp [g1, g2, hlt, hi, hj, q1, q2, hp, w1, q3]; exact is_rfl))
    | (apply op_no; (case hw => simp [g1, g2, hlt, hi, hj, q1, q2, hp, w1, q3]))
    | refine op_nil ?_ | refine next_normal ?_ | refine go_seq ?_ | refine go_region ?_ | refine go_skip ?_ | refine go_block ?_ | refine inb_normal ?_
    | (apply go_yes; (case hc => simp [g1, g2, hlt, hi, hj, q1, q2, hp, w1, q3])) | (apply go_no; (case hc => simp [g1, g2, hlt, hi, hj, q1, q2, hp, w1, q3]))
    | refine go_exit ?_ | refine next_exit ?_ | refine inb_here ?_ | refine inb_past (by decide) ?_ | refine go_ret ?_ | refine next_ret ?_ | refine inb_ret ?_))
      exact ⟨(i + 1, i + 1, L), by simp [w1], by simp; omega, by simp; omega, .inr ⟨by simp only; omega, hB⟩⟩
    rw [if_neg hp0] at hB
    by_cases hk : nameOk p = true
    · rw [if_pos hk] at hB
      have hv := refValid_eq p
      rw [hk] at hv
      (repeat (first
    | (apply is_ok; (case hw => simp [g1, g2, hlt, hi, hj, q1, q2, hp, hp0, hv, w1, q3, r1, r2]); (case he => simp [g1, g2, hlt, hi, hj, q1, q2, hp, hp0, hv, w1, q3, r1, r2]; exact is_rfl))
    | (apply op_no; (case hw => simp [g1, g2, hlt, hi, hj, q1, q2, hp, hp0, hv, w1, q3, r1, r2]))
    | refine op_nil ?_ | refine next_normal ?_ | refine go_seq ?_ | refine go_region ?_ | refine go_skip ?_ | refine go_block ?_ | refine inb_normal ?_
    | (apply go_yes; (case hc => simp [g1, g2, hlt, hi, hj, q1, q2, hp, hp0, hv, w1, q3, r1, r2])) | (apply go_no; (case hc => simp [g1, g2, hlt, hi, hj, q1, q2, hp, hp0, hv, w1, q3, r1, r2]))
    | refine go_exit ?_ | refine next_exit ?_ | refine inb_here ?_ | refine inb_past (by decide) ?_ | refine go_ret ?_ | refine next_ret ?_ | refine inb_ret ?_))
      exact ⟨(i + 1, i + 1, L ++ [p]), by simp [w1], by simp; omega, by simp; omega, .inr ⟨by simp only; omega, hB⟩⟩
    · rw [if_neg hk] at hB
      have hv := refValid_eq p
      rw [show nameOk p = false by simpa using hk] at hv
      (repeat (first
    | (apply is_ok; (case hw => simp [g1, g2, hlt, hi, hj, q1, q2, hp, hp0, hv, w1, q3]); (case he => simp [g1, g2, hlt, hi, hj, q1, q2, hp, hp0, hv, w1, q3]; exact is_rfl))
    | (apply op_no; (case hw => simp [g1, g2, hlt, hi, hj, q1, q2, hp, hp0, hv, w1, q3]))
    | refine op_nil ?_ | refine next_normal ?_ | refine go_seq ?_ | refine go_region ?_ | refine go_skip ?_ | refine go_block ?_ | refine inb_normal ?_
    | (apply go_yes; (case hc => simp [g1, g2, hlt, hi, hj, q1, q2, hp, hp0, hv, w1, q3])) | (apply go_no; (case hc => simp [g1, g2, hlt, hi, hj, q1, q2, hp, hp0, hv, w1, q3]))
    | refine go_exit ?_ | refine next_exit ?_ | refine inb_here ?_ | refine inb_past (by decide) ?_ | refine go_ret ?_ | refine next_ret ?_ | refine inb_ret ?_))
      (apply ends_ok; (case h1 => simp; exact is_rfl); (case h2 => simp; exact is_rfl))
      simp [hB]
end Go.Abs
