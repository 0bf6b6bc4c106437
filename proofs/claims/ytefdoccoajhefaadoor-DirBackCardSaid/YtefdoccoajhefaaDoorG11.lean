/- Proved here: what functions of the program compute, over the evaluator. No condition but those that each theorem states. -/
import Derived.Test.YtefdoccoajhefaaDoorG10
namespace Go.Abs
open Go.Proofs
set_option maxRecDepth 100000
set_option linter.unusedSimpArgs false
set_option linter.unusedVariables false

/-- What Remove returns. -/
def remR (l : List (List UInt8 × Int)) (s : List UInt8) : V × Heap := match idxE s l with
  | some k => (.tuple [.own 0 (l.length - 1) 0 (l.length - 1), .int .i64 0], [.dat true 2 ((l.take k ++ l.drop (k + 1)).map entV)])
  | none => (.tuple [.own 0 0 0 0, .int .i64 13], [.dat true 2 []])

theorem RemR_eq (l : List (List UInt8 × Int)) (hl : l.length ≤ 1000000) (s : List UInt8) : bodyW DC 25 [.sl (l.map entV), .str s] [] = some (remR l s) := by
  have v3 := index_eq l (by unfold maxLen; omega) s
  unfold remR
  cases hx : idxE s l with
  | none =>
    rw [hx] at v3
    simp only at v3
    (refine gives_iff ?_; refine go_func Tryd.f25 rfl rfl (by simp [Tryd.f25]) ?_; dsimp only [codeL, Tryd.f25, scL, sopsL, guardL, dstAt, loopKey])
    (repeat (first
    | (apply is_ok; (case hw => simp [v3]); (case he => simp [v3]; exact is_rfl))
    | (apply op_no; (case hw => simp [v3]))
    | refine op_nil ?_ | refine next_normal ?_ | refine go_seq ?_ | refine go_region ?_ | refine go_skip ?_ | refine go_block ?_ | refine inb_normal ?_
    | (apply go_yes; (case hc => simp [v3])) | (apply go_no; (case hc => simp [v3]))
    | refine go_exit ?_ | refine next_exit ?_ | refine inb_here ?_ | refine inb_past (by decide) ?_ | refine go_ret ?_ | refine next_ret ?_ | refine inb_ret ?_))
    (apply ends_ok; (case h1 => simp; exact is_rfl); (case h2 => simp; exact is_rfl))
    simp
  | some k =>
    rw [hx] at v3
    simp only at v3 ⊢
    obtain ⟨hk, _⟩ := idxE_lt hx
    have g1 : ¬ (k : Int) < 0 := by omega
    have t1 : min k l.length = k := by omega
    have w1 : IntKind.i64.wrap ((k : Int) + 1) = ((k + 1 : Nat) : Int) := wrap_id (by omega) (by omega)
    obtain ⟨q, hq⟩ : ∃ q, q = k + 1 := ⟨_, rfl⟩
    rw [← hq] at w1 ⊢
    have t2 : k + (l.length - q) = l.length - 1 := by omega
    have hk2 : k ≤ l.length := by omega
    have hq2 : q ≤ l.length := by omega
    have r1 : (l.length - 1) * 24 ≤ room := by unfold room; omega
    have r2 : l.length - 1 ≤ room := by unfold room; omega
    have r3 : k * 24 ≤ room := by unfold room; omega
    have r4 : k ≤ room := by unfold room; omega
    rcases Nat.lt_or_ge q l.length with hql | hql
    · have g5 : l[q]? = some l[q] := List.getElem?_eq_getElem hql
      have g7 : ((entV l[q]).cells).length = 2 := rfl
      (refine gives_iff ?_; refine go_func Tryd.f25 rfl rfl (by simp [Tryd.f25]) ?_; dsimp only [codeL, Tryd.f25, scL, sopsL, guardL, dstAt, loopKey])
      (repeat (first
    | (apply is_ok; (case hw => simp [v3, g1, t1, t2, w1, hk2, hq2, r1, r2, r3, r4, g5, g7]); (case he => simp [v3, g1, t1, t2, w1, hk2, hq2, r1, r2, r3, r4, g5, g7]; exact is_rfl))
    | (apply op_no; (case hw => simp [v3, g1, t1, t2, w1, hk2, hq2, r1, r2, r3, r4, g5, g7]))
    | refine op_nil ?_ | refine next_normal ?_ | refine go_seq ?_ | refine go_region ?_ | refine go_skip ?_ | refine go_block ?_ | refine inb_normal ?_
    | (apply go_yes; (case hc => simp [v3, g1, t1, t2, w1, hk2, hq2, r1, r2, r3, r4, g5, g7])) | (apply go_no; (case hc => simp [v3, g1, t1, t2, w1, hk2, hq2, r1, r2, r3, r4, g5, g7]))
    | refine go_exit ?_ | refine next_exit ?_ | refine inb_here ?_ | refine inb_past (by decide) ?_ | refine go_ret ?_ | refine next_ret ?_ | refine inb_ret ?_))
      (apply ends_ok; (case h1 => simp; exact is_rfl); (case h2 => simp; exact is_rfl))
      simp [entV, List.take_of_length_le]
    · have g5 : q = l.length := by omega
      have t3 : k = l.length - 1 := by omega
      rw [g5] at w1 t2 ⊢
      (refine gives_iff ?_; refine go_func Tryd.f25 rfl rfl (by simp [Tryd.f25]) ?_; dsimp only [codeL, Tryd.f25, scL, sopsL, guardL, dstAt, loopKey])
      (repeat (first
    | (apply is_ok; (case hw => simp [v3, g1, t1, t2, w1, hk2, r1, r2, r3, r4]); (case he => simp [v3, g1, t1, t2, w1, hk2, r1, r2, r3, r4]; exact is_rfl))
    | (apply op_no; (case hw => simp [v3, g1, t1, t2, w1, hk2, r1, r2, r3, r4]))
    | refine op_nil ?_ | refine next_normal ?_ | refine go_seq ?_ | refine go_region ?_ | refine go_skip ?_ | refine go_block ?_ | refine inb_normal ?_
    | (apply go_yes; (case hc => simp [v3, g1, t1, t2, w1, hk2, r1, r2, r3, r4])) | (apply go_no; (case hc => simp [v3, g1, t1, t2, w1, hk2, r1, r2, r3, r4]))
    | refine go_exit ?_ | refine next_exit ?_ | refine inb_here ?_ | refine inb_past (by decide) ?_ | refine go_ret ?_ | refine next_ret ?_ | refine inb_ret ?_))
      (apply ends_ok; (case h1 => simp; exact is_rfl); (case h2 => simp; exact is_rfl))
      refine ⟨by rw [← t3], ?_⟩
      rw [show l.drop l.length = [] from List.drop_eq_nil_of_le (Nat.le_refl _)]
      simp

theorem Del_eq (l : List (List UInt8 × Int)) (hl : l.length ≤ 1000000) (k q : Nat) (hk : k < l.length) (hq : q = k + 1) : bodyW DC 42 [.own 1 l.length 0 l.length, .int .i64 k, .int .i64 q] [.dat true 2 [], .dat true 2 (l.map entV)] =
    some (.own 1 l.length 0 (l.length - 1), [.dat true 2 [], .dat true 2 ((l.take k ++ l.drop q).map entV ++ [.agg [.str [], .int .i64 0]])]) := by
  have g1 : ¬ (k : Int) = q := by omega
  have hk2 : k ≤ l.length := by omega
  have hq2 : q ≤ l.length := by omega
  have hkq : k ≤ q := by omega
  (refine gives_iff ?_; refine go_func Tryd.f42 rfl rfl (by simp [Tryd.f42]) ?_; dsimp only [codeL, Tryd.f42, scL, sopsL, guardL, dstAt, loopKey])
  have t1 : q + (l.length - q) = l.length := by omega
  have t2 : k + (l.length - q) = l.length - 1 := by omega
  have t3 : ¬ k = l.length := by omega
  have t4 : l.length - 1 ≤ l.length := by omega
  have t5 : l.length - (l.length - 1) = 1 := by omega
  have t6 : l.length - 1 + 1 = l.length := by omega
  have t7 : min k l.length = k := by omega
  have t8 : ¬ q = 0 := by omega
  have t10 : k + (l.length - q + 1) = l.length := by omega
  have t11 : k + (l.length - q + (l.length - (l.length - 1))) = l.length := by omega
  have t9 : l.length - 1 + (l.length - (l.length - 1)) = l.length := by omega
  (repeat (first
    | (apply is_ok; (case hw => simp [g1, hk2, hq2, hkq, t1, t2, t3, t4, t5, t6, t7, t8, t9, t10, t11]); (case he => simp [g1, hk2, hq2, hkq, t1, t2, t3, t4, t5, t6, t7, t8, t9, t10, t11]; exact is_rfl))
    | (apply op_no; (case hw => simp [g1, hk2, hq2, hkq, t1, t2, t3, t4, t5, t6, t7, t8, t9, t10, t11]))
    | refine op_nil ?_ | refine next_normal ?_ | refine go_seq ?_ | refine go_region ?_ | refine go_skip ?_ | refine go_block ?_ | refine inb_normal ?_
    | (apply go_yes; (case hc => simp [g1, hk2, hq2, hkq, t1, t2, t3, t4, t5, t6, t7, t8, t9, t10, t11])) | (apply go_no; (case hc => simp [g1, hk2, hq2, hkq, t1, t2, t3, t4, t5, t6, t7, t8, t9, t10, t11]))
    | refine go_exit ?_ | refine next_exit ?_ | refine inb_here ?_ | refine inb_past (by decide) ?_ | refine go_ret ?_ | refine next_ret ?_ | refine inb_ret ?_))
  (apply ends_ok; (case h1 => simp; exact is_rfl); (case h2 => simp; exact is_rfl))
  refine ⟨rfl, ?_⟩
  have hX : (List.take k (l.map entV) ++ List.take (l.length - q) (List.drop q (l.map entV))).length = l.length - 1 := by simp; omega
  have hY : List.take (l.length - q) (List.drop q (l.map entV)) = List.drop q (l.map entV) := List.take_of_length_le (by simp)
  rw [← List.append_assoc, List.take_left' hX, List.drop_eq_nil_of_le (i := l.length) (by rw [List.length_append, hX, List.length_drop, List.length_map]; omega), hY]
  rw [List.map_append, List.map_take, List.map_drop]
  rfl

/-- The same out of the row that the clone had. -/
def remD (l : List (List UInt8 × Int)) (s : List UInt8) : V × Heap := match idxE s l with
  | some k => (.tuple [.own 0 l.length 0 (l.length - 1), .int .i64 0], [.dat true 2 ((l.take k ++ l.drop (k + 1)).map entV ++ [.agg [.str [], .int .i64 0]])])
  | none => (.tuple [.own 0 0 0 0, .int .i64 13], [.dat true 2 []])

theorem Rem_eq (l : List (List UInt8 × Int)) (hl : l.length ≤ 1000000) (hs : SortE l) (s : List UInt8) : bodyW DC 24 [.sl (l.map entV), .str s] [] = some (remD l s) := by
  obtain ⟨k, hk, v3⟩ := place_eq l hl hs s
  unfold remD
  rw [pos_idx hs hk]
  by_cases h3 : l[k]?.map (·.1) = some s
  case neg =>
    rw [decide_eq_false h3] at v3
    rw [if_neg h3]
    (refine gives_iff ?_; refine go_func Tryd.f24 rfl rfl (by simp [Tryd.f24]) ?_; dsimp only [codeL, Tryd.f24, scL, sopsL, guardL, dstAt, loopKey])
    (repeat (first
    | (apply is_ok; (case hw => simp [v3]); (case he => simp [v3]; exact is_rfl))
    | (apply op_no; (case hw => simp [v3]))
    | refine op_nil ?_ | refine next_normal ?_ | refine go_seq ?_ | refine go_region ?_ | refine go_skip ?_ | refine go_block ?_ | refine inb_normal ?_
    | (apply go_yes; (case hc => simp [v3])) | (apply go_no; (case hc => simp [v3]))
    | refine go_exit ?_ | refine next_exit ?_ | refine inb_here ?_ | refine inb_past (by decide) ?_ | refine go_ret ?_ | refine next_ret ?_ | refine inb_ret ?_))
    (apply ends_ok; (case h1 => simp; exact is_rfl); (case h2 => simp; exact is_rfl))
    simp
  rw [decide_eq_true h3] at v3
  rw [if_pos h3]
  simp only
  have hkl : k < l.length := by
    rcases Nat.lt_or_ge k l.length with h | h
    · exact h
    · rw [List.getElem?_eq_none h] at h3; cases h3
  have hc : cloneX 2 24 [.sl (l.map entV)] = some (.own 0 l.length 0 l.length, [.dat true 2 (l.map entV)]) := by
    have e1 : l.length * 24 ≤ room := by unfold room; omega
    have e2 : l.length ≤ room := by unfold room; omega
    simp only [cloneX, List.length_map]
    rw [if_pos ⟨by decide, e1, e2, ent_cellsL l⟩]
  have w1 : IntKind.i64.wrap ((k : Int) + 1) = ((k + 1 : Nat) : Int) := wrap_id (by omega) (by omega)
  obtain ⟨q, hq⟩ : ∃ q, q = k + 1 := ⟨_, rfl⟩
  rw [← hq] at w1 ⊢
  (refine gives_iff ?_; refine go_func Tryd.f24 rfl rfl (by simp [Tryd.f24]) ?_; dsimp only [codeL, Tryd.f24, scL, sopsL, guardL, dstAt, loopKey])
  have hd := Del_eq l hl k q hkl hq
  (repeat (first
    | (apply is_ok; (case hw => simp [v3, hc, w1, hd]); (case he => simp [v3, hc, w1, hd]; exact is_rfl))
    | (apply op_no; (case hw => simp [v3, hc, w1, hd]))
    | refine op_nil ?_ | refine next_normal ?_ | refine go_seq ?_ | refine go_region ?_ | refine go_skip ?_ | refine go_block ?_ | refine inb_normal ?_
    | (apply go_yes; (case hc => simp [v3, hc, w1, hd])) | (apply go_no; (case hc => simp [v3, hc, w1, hd]))
    | refine go_exit ?_ | refine next_exit ?_ | refine inb_here ?_ | refine inb_past (by decide) ?_ | refine go_ret ?_ | refine next_ret ?_ | refine inb_ret ?_))
  (apply ends_ok; (case h1 => simp; exact is_rfl); (case h2 => simp; exact is_rfl))
  simp
end Go.Abs
