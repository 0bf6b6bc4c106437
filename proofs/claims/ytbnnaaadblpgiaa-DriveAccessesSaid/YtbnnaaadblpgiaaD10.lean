/- Proved here: what functions of the program compute, over the evaluator. No condition but those that each theorem states. -/
import Derived.Test.YtbnnaaadblpgiaaD9
namespace Go.Abs
open Go.Proofs
set_option maxRecDepth 100000
set_option linter.unusedSimpArgs false

/-- The places up to n at which two lists differ. -/
def diffL (S T : List (List UInt8)) (n : Nat) : List Int := ((List.range n).filter fun i => !(S[i]? == T[i]?)).map Int.ofNat
theorem diffL_succ (S T : List (List UInt8)) (n : Nat) : diffL S T (n + 1) = if S[n]? = T[n]? then diffL S T n else diffL S T n ++ [(n : Int)] := by
  unfold diffL
  rw [List.range_succ, List.filter_append, List.map_append]
  by_cases h : S[n]? = T[n]? <;> simp [h]
theorem diffL_length (S T : List (List UInt8)) (n : Nat) : (diffL S T n).length ≤ n := by
  unfold diffL
  rw [List.length_map]
  exact Nat.le_trans (List.length_filter_le _ _) (by simp)
abbrev diffA (S T : List (List UInt8)) : List Int := diffL S T (max S.length T.length)
theorem diffL_nil {S T : List (List UInt8)} {n : Nat} : diffL S T n = [] ↔ ∀ i, i < n → S[i]? = T[i]? := by
  unfold diffL
  rw [List.map_eq_nil_iff, List.filter_eq_nil_iff]
  simp
theorem diffA_nil {S T : List (List UInt8)} : diffA S T = [] ↔ S = T := by
  rw [diffL_nil]
  constructor
  · intro h
    apply List.ext_getElem?
    intro i
    by_cases hi : i < max S.length T.length
    · exact h i hi
    · rw [List.getElem?_eq_none (by omega), List.getElem?_eq_none (by omega)]
  · rintro rfl _ _; rfl

theorem Diff_eq (S T : List (List UInt8)) (B C : List Int) (hS : S.length ≤ 1000000) (hT : T.length ≤ 1000000) :
    bodyW DC 16 [drv S B, drv T C] [] = some (.own 0 (diffA S T).length 0 (diffA S T).length, [.dat true 1 (ints (diffA S T))]) := by
  (refine gives_iff ?_; refine go_func Try.f16 rfl rfl (by simp [Try.f16]) ?_; dsimp only [codeL, Try.f16, scL, sopsL, guardL, dstAt, loopKey])
  (repeat (first
    | (apply is_ok; (case hw => simp); (case he => simp; exact is_rfl))
    | (apply op_no; (case hw => simp))
    | refine op_nil ?_ | refine next_normal ?_ | refine go_seq ?_ | refine go_region ?_ | refine go_skip ?_ | refine go_block ?_ | refine inb_normal ?_
    | (apply go_yes; (case hc => simp)) | (apply go_no; (case hc => simp))
    | refine go_exit ?_ | refine next_exit ?_ | refine inb_here ?_ | refine inb_past (by decide) ?_ | refine go_ret ?_ | refine next_ret ?_ | refine inb_ret ?_))
  have hmx : max (S.length : Int) (T.length : Int) = ((max S.length T.length : Nat) : Int) := by omega
  refine go_count (max S.length T.length) (fun i => [(2, .ptr 0 1 0 0), (3, .ptr 1 1 0 0), (5, .own 2 (diffL S T i).length 0 (diffL S T i).length), (13, .int .i64 ((max S.length T.length : Nat) : Int)), (14, .int .i64 i)])
    (fun i => [.box (drv S B), .box (drv T C), .dat true 1 (ints (diffL S T i))]) (fun _ => True) (by simp [diffL, hmx]) trivial fun i hi _ => ?_
  have hw : IntKind.i64.wrap ((i : Int) + 1) = (i : Int) + 1 := wrap_id (by omega) (by omega)
  have hL := diffL_length S T i
  have r1 : ((diffL S T i).length + 1) * 8 ≤ room := by unfold room; omega
  have r2 : (diffL S T i).length + 1 ≤ room := by unfold room; omega
  have hd := diffL_succ S T i
  have hH := has_eq S B i
  have hH' := has_eq T C i
  by_cases hlt : i < max S.length T.length
  · have hlt' : ((i : Int)) < ((max S.length T.length : Nat) : Int) := by omega
    by_cases h1 : i < S.length
    · by_cases h2 : i < T.length
      · by_cases h3 : S[i] = T[i]
        · rw [if_pos (by simp [h1, h2, h3])] at hd
          (repeat (first
    | (apply is_ok; (case hw => simp [hlt, hlt', hH, hH', h1, h2, h3]); (case he => simp [hlt, hlt', hH, hH', h1, h2, h3]; exact is_rfl))
    | (apply op_no; (case hw => simp [hlt, hlt', hH, hH', h1, h2, h3]))
    | refine op_nil ?_ | refine next_normal ?_ | refine go_seq ?_ | refine go_region ?_ | refine go_skip ?_ | refine go_block ?_ | refine inb_normal ?_
    | (apply go_yes; (case hc => simp [hlt, hlt', hH, hH', h1, h2, h3])) | (apply go_no; (case hc => simp [hlt, hlt', hH, hH', h1, h2, h3]))
    | refine go_exit ?_ | refine next_exit ?_ | refine inb_here ?_ | refine inb_past (by decide) ?_ | refine go_ret ?_ | refine next_ret ?_ | refine inb_ret ?_))
          exact ⟨hlt, by simp [hw, hd], trivial⟩
        · rw [if_neg (by simp [h1, h2, h3])] at hd
          (repeat (first
    | (apply is_ok; (case hw => simp [hlt, hlt', hH, hH', h1, h2, h3, r1, r2]); (case he => simp [hlt, hlt', hH, hH', h1, h2, h3, r1, r2]; exact is_rfl))
    | (apply op_no; (case hw => simp [hlt, hlt', hH, hH', h1, h2, h3, r1, r2]))
    | refine op_nil ?_ | refine next_normal ?_ | refine go_seq ?_ | refine go_region ?_ | refine go_skip ?_ | refine go_block ?_ | refine inb_normal ?_
    | (apply go_yes; (case hc => simp [hlt, hlt', hH, hH', h1, h2, h3, r1, r2])) | (apply go_no; (case hc => simp [hlt, hlt', hH, hH', h1, h2, h3, r1, r2]))
    | refine go_exit ?_ | refine next_exit ?_ | refine inb_here ?_ | refine inb_past (by decide) ?_ | refine go_ret ?_ | refine next_ret ?_ | refine inb_ret ?_))
          exact ⟨hlt, by simp [hw, hd], trivial⟩
      · rw [if_neg (by simp [h1, h2])] at hd
        (repeat (first
    | (apply is_ok; (case hw => simp [hlt, hlt', hH, hH', h1, h2, r1, r2]); (case he => simp [hlt, hlt', hH, hH', h1, h2, r1, r2]; exact is_rfl))
    | (apply op_no; (case hw => simp [hlt, hlt', hH, hH', h1, h2, r1, r2]))
    | refine op_nil ?_ | refine next_normal ?_ | refine go_seq ?_ | refine go_region ?_ | refine go_skip ?_ | refine go_block ?_ | refine inb_normal ?_
    | (apply go_yes; (case hc => simp [hlt, hlt', hH, hH', h1, h2, r1, r2])) | (apply go_no; (case hc => simp [hlt, hlt', hH, hH', h1, h2, r1, r2]))
    | refine go_exit ?_ | refine next_exit ?_ | refine inb_here ?_ | refine inb_past (by decide) ?_ | refine go_ret ?_ | refine next_ret ?_ | refine inb_ret ?_))
        exact ⟨hlt, by simp [hw, hd], trivial⟩
    · have h2 : i < T.length := by omega
      rw [if_neg (by simp [h1, h2])] at hd
      (repeat (first
    | (apply is_ok; (case hw => simp [hlt, hlt', hH, hH', h1, h2, r1, r2]); (case he => simp [hlt, hlt', hH, hH', h1, h2, r1, r2]; exact is_rfl))
    | (apply op_no; (case hw => simp [hlt, hlt', hH, hH', h1, h2, r1, r2]))
    | refine op_nil ?_ | refine next_normal ?_ | refine go_seq ?_ | refine go_region ?_ | refine go_skip ?_ | refine go_block ?_ | refine inb_normal ?_
    | (apply go_yes; (case hc => simp [hlt, hlt', hH, hH', h1, h2, r1, r2])) | (apply go_no; (case hc => simp [hlt, hlt', hH, hH', h1, h2, r1, r2]))
    | refine go_exit ?_ | refine next_exit ?_ | refine inb_here ?_ | refine inb_past (by decide) ?_ | refine go_ret ?_ | refine next_ret ?_ | refine inb_ret ?_))
      exact ⟨hlt, by simp [hw, hd], trivial⟩
  · have hlt' : ¬ ((i : Int)) < ((max S.length T.length : Nat) : Int) := by omega
    (repeat (first
    | (apply is_ok; (case hw => simp [hlt, hlt']); (case he => simp [hlt, hlt']; exact is_rfl))
    | (apply op_no; (case hw => simp [hlt, hlt']))
    | refine op_nil ?_ | refine next_normal ?_ | refine go_seq ?_ | refine go_region ?_ | refine go_skip ?_ | refine go_block ?_ | refine inb_normal ?_
    | (apply go_yes; (case hc => simp [hlt, hlt'])) | (apply go_no; (case hc => simp [hlt, hlt']))
    | refine go_exit ?_ | refine next_exit ?_ | refine inb_here ?_ | refine inb_past (by decide) ?_ | refine go_ret ?_ | refine next_ret ?_ | refine inb_ret ?_))
    (apply ends_ok; (case h1 => simp; exact is_rfl); (case h2 => simp; exact is_rfl))
    have : i = max S.length T.length := by omega
    simp [this]

theorem DiffR_eq (S T : List (List UInt8)) (B C : List Int) (hS : S.length ≤ 1000000) (hT : T.length ≤ 1000000) :
    bodyW DC 25 [drv S B, drv T C] [] = some (.own 0 (diffA S T).length 0 (diffA S T).length, [.dat true 1 (ints (diffA S T))]) := by
  (refine gives_iff ?_; refine go_func Try.f25 rfl rfl (by simp [Try.f25]) ?_; dsimp only [codeL, Try.f25, scL, sopsL, guardL, dstAt, loopKey])
  (repeat (first
    | (apply is_ok; (case hw => simp); (case he => simp; exact is_rfl))
    | (apply op_no; (case hw => simp))
    | refine op_nil ?_ | refine next_normal ?_ | refine go_seq ?_ | refine go_region ?_ | refine go_skip ?_ | refine go_block ?_ | refine inb_normal ?_
    | (apply go_yes; (case hc => simp)) | (apply go_no; (case hc => simp))
    | refine go_exit ?_ | refine next_exit ?_ | refine inb_here ?_ | refine inb_past (by decide) ?_ | refine go_ret ?_ | refine next_ret ?_ | refine inb_ret ?_))
  refine go_count (max S.length T.length) (fun i => [(2, .ptr 0 1 0 0), (3, .ptr 1 1 0 0), (5, .own 2 (diffL S T i).length 0 (diffL S T i).length), (6, .int .i64 i)])
    (fun i => [.box (drv S B), .box (drv T C), .dat true 1 (ints (diffL S T i))]) (fun _ => True) (by simp [diffL]) trivial fun i hi _ => ?_
  have hw : IntKind.i64.wrap ((i : Int) + 1) = (i : Int) + 1 := wrap_id (by omega) (by omega)
  have hL := diffL_length S T i
  have r1 : ((diffL S T i).length + 1) * 8 ≤ room := by unfold room; omega
  have r2 : (diffL S T i).length + 1 ≤ room := by unfold room; omega
  have hd := diffL_succ S T i
  by_cases h1 : i < S.length
  · have hlt : i < max S.length T.length := by omega
    have e1 : ¬ ((S.length : Int) ≤ i) := by omega
    have e1' : ¬ (S.length ≤ i) := by omega
    by_cases h2 : i < T.length
    · have e2 : ¬ ((T.length : Int) ≤ i) := by omega
      have e2' : ¬ (T.length ≤ i) := by omega
      by_cases h3 : S[i] = T[i]
      · rw [if_pos (by simp [h1, h2, h3])] at hd
        (repeat (first
    | (apply is_ok; (case hw => simp [h1, e1, e1', h2, e2, e2', h3]); (case he => simp [h1, e1, e1', h2, e2, e2', h3]; exact is_rfl))
    | (apply op_no; (case hw => simp [h1, e1, e1', h2, e2, e2', h3]))
    | refine op_nil ?_ | refine next_normal ?_ | refine go_seq ?_ | refine go_region ?_ | refine go_skip ?_ | refine go_block ?_ | refine inb_normal ?_
    | (apply go_yes; (case hc => simp [h1, e1, e1', h2, e2, e2', h3])) | (apply go_no; (case hc => simp [h1, e1, e1', h2, e2, e2', h3]))
    | refine go_exit ?_ | refine next_exit ?_ | refine inb_here ?_ | refine inb_past (by decide) ?_ | refine go_ret ?_ | refine next_ret ?_ | refine inb_ret ?_))
        exact ⟨hlt, by simp [hw, hd], trivial⟩
      · rw [if_neg (by simp [h1, h2, h3])] at hd
        (repeat (first
    | (apply is_ok; (case hw => simp [h1, e1, e1', h2, e2, e2', h3, r1, r2]); (case he => simp [h1, e1, e1', h2, e2, e2', h3, r1, r2]; exact is_rfl))
    | (apply op_no; (case hw => simp [h1, e1, e1', h2, e2, e2', h3, r1, r2]))
    | refine op_nil ?_ | refine next_normal ?_ | refine go_seq ?_ | refine go_region ?_ | refine go_skip ?_ | refine go_block ?_ | refine inb_normal ?_
    | (apply go_yes; (case hc => simp [h1, e1, e1', h2, e2, e2', h3, r1, r2])) | (apply go_no; (case hc => simp [h1, e1, e1', h2, e2, e2', h3, r1, r2]))
    | refine go_exit ?_ | refine next_exit ?_ | refine inb_here ?_ | refine inb_past (by decide) ?_ | refine go_ret ?_ | refine next_ret ?_ | refine inb_ret ?_))
        exact ⟨hlt, by simp [hw, hd], trivial⟩
    · have e2 : ((T.length : Int) ≤ i) := by omega
      have e2' : (T.length ≤ i) := by omega
      rw [if_neg (by simp [h1, h2])] at hd
      (repeat (first
    | (apply is_ok; (case hw => simp [h1, e1, e1', h2, e2, e2', r1, r2]); (case he => simp [h1, e1, e1', h2, e2, e2', r1, r2]; exact is_rfl))
    | (apply op_no; (case hw => simp [h1, e1, e1', h2, e2, e2', r1, r2]))
    | refine op_nil ?_ | refine next_normal ?_ | refine go_seq ?_ | refine go_region ?_ | refine go_skip ?_ | refine go_block ?_ | refine inb_normal ?_
    | (apply go_yes; (case hc => simp [h1, e1, e1', h2, e2, e2', r1, r2])) | (apply go_no; (case hc => simp [h1, e1, e1', h2, e2, e2', r1, r2]))
    | refine go_exit ?_ | refine next_exit ?_ | refine inb_here ?_ | refine inb_past (by decide) ?_ | refine go_ret ?_ | refine next_ret ?_ | refine inb_ret ?_))
      exact ⟨hlt, by simp [hw, hd], trivial⟩
  · have e1 : ((S.length : Int) ≤ i) := by omega
    have e1' : (S.length ≤ i) := by omega
    by_cases h2 : i < T.length
    · have hlt : i < max S.length T.length := by omega
      rw [if_neg (by simp [h1, h2])] at hd
      (repeat (first
    | (apply is_ok; (case hw => simp [h1, e1, e1', h2, r1, r2]); (case he => simp [h1, e1, e1', h2, r1, r2]; exact is_rfl))
    | (apply op_no; (case hw => simp [h1, e1, e1', h2, r1, r2]))
    | refine op_nil ?_ | refine next_normal ?_ | refine go_seq ?_ | refine go_region ?_ | refine go_skip ?_ | refine go_block ?_ | refine inb_normal ?_
    | (apply go_yes; (case hc => simp [h1, e1, e1', h2, r1, r2])) | (apply go_no; (case hc => simp [h1, e1, e1', h2, r1, r2]))
    | refine go_exit ?_ | refine next_exit ?_ | refine inb_here ?_ | refine inb_past (by decide) ?_ | refine go_ret ?_ | refine next_ret ?_ | refine inb_ret ?_))
      exact ⟨hlt, by simp [hw, hd], trivial⟩
    · (repeat (first
    | (apply is_ok; (case hw => simp [h1, e1, h2]); (case he => simp [h1, e1, h2]; exact is_rfl))
    | (apply op_no; (case hw => simp [h1, e1, h2]))
    | refine op_nil ?_ | refine next_normal ?_ | refine go_seq ?_ | refine go_region ?_ | refine go_skip ?_ | refine go_block ?_ | refine inb_normal ?_
    | (apply go_yes; (case hc => simp [h1, e1, h2])) | (apply go_no; (case hc => simp [h1, e1, h2]))
    | refine go_exit ?_ | refine next_exit ?_ | refine inb_here ?_ | refine inb_past (by decide) ?_ | refine go_ret ?_ | refine next_ret ?_ | refine inb_ret ?_))
      (apply ends_ok; (case h1 => simp; exact is_rfl); (case h2 => simp; exact is_rfl))
      have : i = max S.length T.length := by omega
      simp [this]

theorem SameDrive_eq (S T : List (List UInt8)) (B C : List Int) (hS : S.length ≤ 1000000) (hT : T.length ≤ 1000000) (hB : B.length ≤ maxLen) :
    bodyW DC 12 [drv S B, drv T C] [] = some (.bool (decide (S = T ∧ B = C)), []) := by
  unfold maxLen at hB
  have hD := DiffR_eq S T B C hS hT
  have hn := @diffA_nil S T
  generalize diffA S T = D at hD hn
  (refine gives_iff ?_; refine go_func Try.f12 rfl rfl (by simp [Try.f12]) ?_; dsimp only [codeL, Try.f12, scL, sopsL, guardL, dstAt, loopKey])
  by_cases h1 : S.length = T.length
  case neg =>
    have e1 : ¬ ((S.length : Int) = T.length) := by omega
    (repeat (first
    | (apply is_ok; (case hw => simp [h1, e1]); (case he => simp [h1, e1]; exact is_rfl))
    | (apply op_no; (case hw => simp [h1, e1]))
    | refine op_nil ?_ | refine next_normal ?_ | refine go_seq ?_ | refine go_region ?_ | refine go_skip ?_ | refine go_block ?_ | refine inb_normal ?_
    | (apply go_yes; (case hc => simp [h1, e1])) | (apply go_no; (case hc => simp [h1, e1]))
    | refine go_exit ?_ | refine next_exit ?_ | refine inb_here ?_ | refine inb_past (by decide) ?_ | refine go_ret ?_ | refine next_ret ?_ | refine inb_ret ?_))
    (apply ends_ok; (case h1 => simp; exact is_rfl); (case h2 => simp; exact is_rfl))
    have : S ≠ T := fun h => h1 (by rw [h])
    simp [this]
  have e1 : ((S.length : Int) = T.length) := by omega
  by_cases h2 : B.length = C.length
  case neg =>
    have e2 : ¬ ((B.length : Int) = C.length) := by omega
    (repeat (first
    | (apply is_ok; (case hw => simp [h1, e1, h2, e2]); (case he => simp [h1, e1, h2, e2]; exact is_rfl))
    | (apply op_no; (case hw => simp [h1, e1, h2, e2]))
    | refine op_nil ?_ | refine next_normal ?_ | refine go_seq ?_ | refine go_region ?_ | refine go_skip ?_ | refine go_block ?_ | refine inb_normal ?_
    | (apply go_yes; (case hc => simp [h1, e1, h2, e2])) | (apply go_no; (case hc => simp [h1, e1, h2, e2]))
    | refine go_exit ?_ | refine next_exit ?_ | refine inb_here ?_ | refine inb_past (by decide) ?_ | refine go_ret ?_ | refine next_ret ?_ | refine inb_ret ?_))
    (apply ends_ok; (case h1 => simp; exact is_rfl); (case h2 => simp; exact is_rfl))
    have : B ≠ C := fun h => h2 (by rw [h])
    simp [this]
  have e2 : ((B.length : Int) = C.length) := by omega
  (repeat (first
    | (apply is_ok; (case hw => simp [h1, e1, h2, e2]); (case he => simp [h1, e1, h2, e2]; exact is_rfl))
    | (apply op_no; (case hw => simp [h1, e1, h2, e2]))
    | refine op_nil ?_ | refine next_normal ?_ | refine go_seq ?_ | refine go_region ?_ | refine go_skip ?_ | refine go_block ?_ | refine inb_normal ?_
    | (apply go_yes; (case hc => simp [h1, e1, h2, e2])) | (apply go_no; (case hc => simp [h1, e1, h2, e2]))
    | refine go_exit ?_ | refine next_exit ?_ | refine inb_here ?_ | refine inb_past (by decide) ?_ | refine go_ret ?_ | refine next_ret ?_ | refine inb_ret ?_))
  refine go_count B.length (fun i => [(2, .ptr 0 1 0 0), (3, .ptr 1 1 0 0), (5, .int .i64 i)]) (fun i => [.box (drv S B), .box (drv T C)])
    (fun i => ∀ j (hj : j < B.length), j < i → B[j] = C[j]'(by omega)) (by simp) (by simp) fun i hi hI => ?_
  by_cases hlt : i < B.length
  · have hw : IntKind.i64.wrap ((i : Int) + 1) = (i : Int) + 1 := wrap_id (by omega) (by omega)
    have hlt2 : i < C.length := by omega
    by_cases h3 : B[i] = C[i]
    · (repeat (first
    | (apply is_ok; (case hw => simp [hlt, hlt2, h3]); (case he => simp [hlt, hlt2, h3]; exact is_rfl))
    | (apply op_no; (case hw => simp [hlt, hlt2, h3]))
    | refine op_nil ?_ | refine next_normal ?_ | refine go_seq ?_ | refine go_region ?_ | refine go_skip ?_ | refine go_block ?_ | refine inb_normal ?_
    | (apply go_yes; (case hc => simp [hlt, hlt2, h3])) | (apply go_no; (case hc => simp [hlt, hlt2, h3]))
    | refine go_exit ?_ | refine next_exit ?_ | refine inb_here ?_ | refine inb_past (by decide) ?_ | refine go_ret ?_ | refine next_ret ?_ | refine inb_ret ?_))
      exact ⟨hlt, by simp [hw], fun j hj hji => by
        by_cases hje : j = i
        · subst hje; exact h3
        · exact hI j hj (by omega)⟩
    · (repeat (first
    | (apply is_ok; (case hw => simp [hlt, hlt2, h3]); (case he => simp [hlt, hlt2, h3]; exact is_rfl))
    | (apply op_no; (case hw => simp [hlt, hlt2, h3]))
    | refine op_nil ?_ | refine next_normal ?_ | refine go_seq ?_ | refine go_region ?_ | refine go_skip ?_ | refine go_block ?_ | refine inb_normal ?_
    | (apply go_yes; (case hc => simp [hlt, hlt2, h3])) | (apply go_no; (case hc => simp [hlt, hlt2, h3]))
    | refine go_exit ?_ | refine next_exit ?_ | refine inb_here ?_ | refine inb_past (by decide) ?_ | refine go_ret ?_ | refine next_ret ?_ | refine inb_ret ?_))
      (apply ends_ok; (case h1 => simp; exact is_rfl); (case h2 => simp; exact is_rfl))
      have : B ≠ C := fun h => h3 (by subst h; rfl)
      simp [this]
  · have hBC : B = C := List.ext_getElem h2 fun j hj _ => hI j hj (by omega)
    subst hBC
    by_cases hST : S = T
    · have hD0 := hn.2 hST
      subst hD0
      (repeat (first
    | (apply is_ok; (case hw => simp [hlt, hD]); (case he => simp [hlt, hD]; exact is_rfl))
    | (apply op_no; (case hw => simp [hlt, hD]))
    | refine op_nil ?_ | refine next_normal ?_ | refine go_seq ?_ | refine go_region ?_ | refine go_skip ?_ | refine go_block ?_ | refine inb_normal ?_
    | (apply go_yes; (case hc => simp [hlt, hD])) | (apply go_no; (case hc => simp [hlt, hD]))
    | refine go_exit ?_ | refine next_exit ?_ | refine inb_here ?_ | refine inb_past (by decide) ?_ | refine go_ret ?_ | refine next_ret ?_ | refine inb_ret ?_))
      (apply ends_ok; (case h1 => simp; exact is_rfl); (case h2 => simp; exact is_rfl))
      simp [hST]
    · have hD0 : ¬ (D.length = 0) := fun h => hST (hn.1 (List.eq_nil_of_length_eq_zero h))
      have hD1 : ¬ ((D.length : Int) = 0) := by omega
      have hD2 : ¬ (D = []) := fun h => hST (hn.1 h)
      (repeat (first
    | (apply is_ok; (case hw => simp [hlt, hD, hD0, hD1, hD2]); (case he => simp [hlt, hD, hD0, hD1, hD2]; exact is_rfl))
    | (apply op_no; (case hw => simp [hlt, hD, hD0, hD1, hD2]))
    | refine op_nil ?_ | refine next_normal ?_ | refine go_seq ?_ | refine go_region ?_ | refine go_skip ?_ | refine go_block ?_ | refine inb_normal ?_
    | (apply go_yes; (case hc => simp [hlt, hD, hD0, hD1, hD2])) | (apply go_no; (case hc => simp [hlt, hD, hD0, hD1, hD2]))
    | refine go_exit ?_ | refine next_exit ?_ | refine inb_here ?_ | refine inb_past (by decide) ?_ | refine go_ret ?_ | refine next_ret ?_ | refine inb_ret ?_))
      (apply ends_ok; (case h1 => simp; exact is_rfl); (case h2 => simp; exact is_rfl))
      simp [hST, hD2]
end Go.Abs
