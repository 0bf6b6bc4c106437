/- Proved here: what functions of the program compute, over the evaluator. No condition but those that each theorem states. -/
import Derived.Test.YtpffmpllnpmkbaaDoorE24
namespace Go.Abs
open Go.Proofs
set_option maxRecDepth 100000
set_option linter.unusedSimpArgs false
set_option linter.unusedVariables false

theorem blank_pad : bodyW DC 23 [] [] = some (.str (padS []), []) := by
  have h := padded_eq [] (by simp)
  (refine gives_iff ?_; refine go_func Tryd.f23 rfl rfl (by simp [Tryd.f23]) ?_; dsimp only [codeL, Tryd.f23, scL, sopsL, guardL, dstAt, loopKey])
  (repeat (first
    | (apply is_ok; (case hw => simp [h]); (case he => simp [h]; exact is_rfl))
    | (apply op_no; (case hw => simp [h]))
    | refine op_nil ?_ | refine next_normal ?_ | refine go_seq ?_ | refine go_region ?_ | refine go_skip ?_ | refine go_block ?_ | refine inb_normal ?_
    | (apply go_yes; (case hc => simp [h])) | (apply go_no; (case hc => simp [h]))
    | refine go_exit ?_ | refine next_exit ?_ | refine inb_here ?_ | refine inb_past (by decide) ?_ | refine go_ret ?_ | refine next_ret ?_ | refine inb_ret ?_))
  (apply ends_ok; (case h1 => simp; exact is_rfl); (case h2 => simp; exact is_rfl))
  simp
def CleanP (S : List (List UInt8)) (B : List Int) : Prop := VolP S B ∧ (1 : Int) ∉ B ∧ S.getD 1 [] = padS []
instance (S : List (List UInt8)) (B : List Int) : Decidable (CleanP S B) := by unfold CleanP; infer_instance
theorem Clean_eq (S : List (List UInt8)) (B : List Int) (hB : B.length ≤ maxLen) : bodyW DC 15 [drv S B] [] = some (.bool (decide (CleanP S B)), []) := by
  obtain ⟨w, hs, hw⟩ := swapping_eq S B hB
  by_cases hv : VolP S B
  case neg =>
    rw [decide_eq_false hv] at hs
    rw [decide_eq_false (fun h => hv h.1)]
    (refine gives_iff ?_; refine go_func Tryd.f15 rfl rfl (by simp [Tryd.f15]) ?_; dsimp only [codeL, Tryd.f15, scL, sopsL, guardL, dstAt, loopKey])
    (repeat (first
    | (apply is_ok; (case hw => simp [hs]); (case he => simp [hs]; exact is_rfl))
    | (apply op_no; (case hw => simp [hs]))
    | refine op_nil ?_ | refine next_normal ?_ | refine go_seq ?_ | refine go_region ?_ | refine go_skip ?_ | refine go_block ?_ | refine inb_normal ?_
    | (apply go_yes; (case hc => simp [hs])) | (apply go_no; (case hc => simp [hs]))
    | refine go_exit ?_ | refine next_exit ?_ | refine inb_here ?_ | refine inb_past (by decide) ?_ | refine go_ret ?_ | refine next_ret ?_ | refine inb_ret ?_))
    (apply ends_ok; (case h1 => simp; exact is_rfl); (case h2 => simp; exact is_rfl))
    simp
  rw [decide_eq_true hv] at hs
  have hR := Read_eq S B hB 1
  have hb := blank_pad
  have hl := (vol_bounds hv).1
  by_cases h1 : (1 : Int) ∈ B
  · have e : readS S B 1 = ([], 21) := by unfold readS; rw [if_pos (by omega), if_pos h1]
    rw [e] at hR
    rw [decide_eq_false (fun h => h.2.1 h1)]
    (refine gives_iff ?_; refine go_func Tryd.f15 rfl rfl (by simp [Tryd.f15]) ?_; dsimp only [codeL, Tryd.f15, scL, sopsL, guardL, dstAt, loopKey])
    (repeat (first
    | (apply is_ok; (case hw => simp [hs, hR, hb]); (case he => simp [hs, hR, hb]; exact is_rfl))
    | (apply op_no; (case hw => simp [hs, hR, hb]))
    | refine op_nil ?_ | refine next_normal ?_ | refine go_seq ?_ | refine go_region ?_ | refine go_skip ?_ | refine go_block ?_ | refine inb_normal ?_
    | (apply go_yes; (case hc => simp [hs, hR, hb])) | (apply go_no; (case hc => simp [hs, hR, hb]))
    | refine go_exit ?_ | refine next_exit ?_ | refine inb_here ?_ | refine inb_past (by decide) ?_ | refine go_ret ?_ | refine next_ret ?_ | refine inb_ret ?_))
    (apply ends_ok; (case h1 => simp; exact is_rfl); (case h2 => simp; exact is_rfl))
    simp
  · have e : readS S B 1 = (S.getD 1 [], 0) := by unfold readS; rw [if_pos (by omega), if_neg h1]; rfl
    rw [e] at hR
    have hd : decide (CleanP S B) = (S.getD 1 [] == padS []) := by
      rw [Bool.eq_iff_iff]
      simp [CleanP, hv, h1]
    rw [hd]
    generalize padS [] = p at hb
    generalize S.getD 1 [] = q at hR
    (refine gives_iff ?_; refine go_func Tryd.f15 rfl rfl (by simp [Tryd.f15]) ?_; dsimp only [codeL, Tryd.f15, scL, sopsL, guardL, dstAt, loopKey])
    (repeat (first
    | (apply is_ok; (case hw => simp [hs, hR, hb]); (case he => simp [hs, hR, hb]; exact is_rfl))
    | (apply op_no; (case hw => simp [hs, hR, hb]))
    | refine op_nil ?_ | refine next_normal ?_ | refine go_seq ?_ | refine go_region ?_ | refine go_skip ?_ | refine go_block ?_ | refine inb_normal ?_
    | (apply go_yes; (case hc => simp [hs, hR, hb])) | (apply go_no; (case hc => simp [hs, hR, hb]))
    | refine go_exit ?_ | refine next_exit ?_ | refine inb_here ?_ | refine inb_past (by decide) ?_ | refine go_ret ?_ | refine next_ret ?_ | refine inb_ret ?_))
    (apply ends_ok; (case h1 => simp; exact is_rfl); (case h2 => simp; exact is_rfl))
    simp
theorem ofFiles_eq (S : List (List UInt8)) (B : List Int) (hB : B.length ≤ maxLen) (hv : VolP S B) (k : Int) : bodyW DC 28 [drv S B, .int .i64 k] [] = some (.bool (decide (18 ≤ k ∧ k < S.length - swapW S)), []) := by
  obtain ⟨w, hs, hw⟩ := swapping_eq S B hB
  obtain rfl := hw hv
  rw [decide_eq_true hv] at hs
  have hb := vol_bounds hv
  have f1 : IntKind.i64.wrap ((S.length : Int) - swapW S) = S.length - swapW S := wrap_id (by omega) (by omega)
  by_cases h1 : 18 ≤ k
  · (refine gives_iff ?_; refine go_func Tryd.f28 rfl rfl (by simp [Tryd.f28]) ?_; dsimp only [codeL, Tryd.f28, scL, sopsL, guardL, dstAt, loopKey])
    (repeat (first
    | (apply is_ok; (case hw => simp [hs, h1, f1]); (case he => simp [hs, h1, f1]; exact is_rfl))
    | (apply op_no; (case hw => simp [hs, h1, f1]))
    | refine op_nil ?_ | refine next_normal ?_ | refine go_seq ?_ | refine go_region ?_ | refine go_skip ?_ | refine go_block ?_ | refine inb_normal ?_
    | (apply go_yes; (case hc => simp [hs, h1, f1])) | (apply go_no; (case hc => simp [hs, h1, f1]))
    | refine go_exit ?_ | refine next_exit ?_ | refine inb_here ?_ | refine inb_past (by decide) ?_ | refine go_ret ?_ | refine next_ret ?_ | refine inb_ret ?_))
    (apply ends_ok; (case h1 => simp; exact is_rfl); (case h2 => simp; exact is_rfl))
    simp [h1]
  · (refine gives_iff ?_; refine go_func Tryd.f28 rfl rfl (by simp [Tryd.f28]) ?_; dsimp only [codeL, Tryd.f28, scL, sopsL, guardL, dstAt, loopKey])
    (repeat (first
    | (apply is_ok; (case hw => simp [hs, h1]); (case he => simp [hs, h1]; exact is_rfl))
    | (apply op_no; (case hw => simp [hs, h1]))
    | refine op_nil ?_ | refine next_normal ?_ | refine go_seq ?_ | refine go_region ?_ | refine go_skip ?_ | refine go_block ?_ | refine inb_normal ?_
    | (apply go_yes; (case hc => simp [hs, h1])) | (apply go_no; (case hc => simp [hs, h1]))
    | refine go_exit ?_ | refine next_exit ?_ | refine inb_here ?_ | refine inb_past (by decide) ?_ | refine go_ret ?_ | refine next_ret ?_ | refine inb_ret ?_))
    (apply ends_ok; (case h1 => simp; exact is_rfl); (case h2 => simp; exact is_rfl))
    simp [h1]

/-- What is wrong with the first wrong write. -/
def wrongI (n : Int) : List (Int × List UInt8) → Int
  | [] => 0
  | w :: l => if 18 ≤ w.1 ∧ w.1 < n then if 128 < w.2.length then 7 else wrongI n l else 2
theorem wrongI_at {n : Int} {l : List (Int × List UInt8)} {i : Nat} (h : i < l.length) : wrongI n (l.drop i) = if 18 ≤ l[i].1 ∧ l[i].1 < n then if 128 < l[i].2.length then 7 else wrongI n (l.drop (i + 1)) else 2 := by
  rw [List.drop_eq_getElem_cons h, wrongI]
def padW (w : Int × List UInt8) : Int × List UInt8 := (w.1, padS w.2)
def logL (l : List (Int × List UInt8)) : List (Int × List UInt8) := (List.range l.length).map fun i : Nat => (2 + (i : Int), padS (l.getD i (0, [])).2)
def headL (l : List (Int × List UInt8)) : List UInt8 := put2 l.length ++ l.flatMap fun w => put2 w.1
/-- The writes of a transaction. -/
def planL (m : List (Int × List UInt8)) : List (Int × List UInt8) := logL m ++ ((1, padS (headL m)) :: (m.map padW ++ [(1, padS [])]))
def planS (S : List (List UInt8)) (B : List Int) (l : List (Int × List UInt8)) : List (Int × List UInt8) × Int :=
  if VolP S B then if CleanP S B then if wrongI (S.length - swapW S) l = 0 then
    if 16 < (mergeL l).length then ([], 12) else if (mergeL l).length = 0 then ([], 0) else (planL (mergeL l), 0)
  else ([], wrongI (S.length - swapW S) l) else ([], 11) else ([], 9)

theorem foldl_none {k : Int} : ∀ {l : List (Int × List UInt8)} {a : List UInt8}, (∀ w ∈ l, w.1 ≠ k) → l.foldl (fun a w => if w.1 = k then w.2 else a) a = a
  | [], a, _ => rfl
  | w :: l, a, h => by
    rw [List.foldl_cons, if_neg (h w (List.mem_cons_self ..))]
    exact foldl_none fun w hw => h w (List.mem_cons_of_mem _ hw)
theorem foldl_last {k : Int} : ∀ {l : List (Int × List UInt8)} {a : List UInt8}, (∃ w ∈ l, w.1 = k) → (k, l.foldl (fun a w => if w.1 = k then w.2 else a) a) ∈ l
  | [], a, h => by simp at h
  | w :: l, a, h => by
    rw [List.foldl_cons]
    by_cases hl : ∃ w ∈ l, w.1 = k
    · exact List.mem_cons_of_mem _ (foldl_last hl)
    · rw [foldl_none (fun w hw e => hl ⟨w, hw, e⟩)]
      obtain ⟨w', hw', e⟩ := h
      rcases List.mem_cons.1 hw' with rfl | hw'
      · rw [if_pos e, ← e]
        exact List.mem_cons_self ..
      · exact absurd ⟨w', hw', e⟩ hl
theorem mergeL_sub {l : List (Int × List UInt8)} {w : Int × List UInt8} (h : w ∈ mergeL l) : w ∈ l := by
  unfold mergeL at h
  obtain ⟨k, hk, rfl⟩ := List.mem_map.1 h
  have hk' : k ∈ keysL l := sorted_mem.1 hk
  exact foldl_last (mem_keysL.1 hk')
theorem wrongI_ok {n : Int} : ∀ {l : List (Int × List UInt8)}, wrongI n l = 0 → ∀ w ∈ l, 18 ≤ w.1 ∧ w.1 < n ∧ w.2.length ≤ 128
  | [], _, w, hw => by simp at hw
  | x :: l, h, w, hw => by
    rw [wrongI] at h
    split at h
    · rename_i h1
      split at h
      · cases h
      · rename_i h2
        rcases List.mem_cons.1 hw with rfl | hw
        · exact ⟨h1.1, h1.2, by omega⟩
        · exact wrongI_ok h w hw
    · cases h
theorem logL_take {m : List (Int × List UInt8)} {i : Nat} (h : i < m.length) : (logL m).take (i + 1) = (logL m).take i ++ [(2 + (i : Int), padS (m[i]'h).2)] := by
  have hl : i < (logL m).length := by simpa [logL] using h
  rw [List.take_succ_eq_append_getElem hl]
  simp [logL, h]
theorem headL_take {m : List (Int × List UInt8)} {i : Nat} (h : i < m.length) : put2 m.length ++ (m.take (i + 1)).flatMap (fun w => put2 w.1) = (put2 m.length ++ (m.take i).flatMap (fun w => put2 w.1)) ++ put2 (m[i]'h).1 := by
  rw [List.take_succ_eq_append_getElem h, List.flatMap_append]
  simp

theorem flat_len : ∀ l : List (Int × List UInt8), (l.flatMap fun w => put2 w.1).length = 2 * l.length
  | [] => rfl
  | w :: l => by rw [List.flatMap_cons, List.length_append, put2_length, flat_len l, List.length_cons]; omega
theorem rooms {n : Nat} (h : n ≤ 16) : (n + 1) * 24 ≤ room ∧ n + 1 ≤ room ∧ (n + 1 + n) * 24 ≤ room ∧ n + 1 + n ≤ room ∧ (n + 1 + n + 1) * 24 ≤ room ∧ n + 1 + n + 1 ≤ room := by
  unfold room
  omega
set_option maxHeartbeats 40000000 in
theorem Plan_eq (S : List (List UInt8)) (B : List Int) (hB : B.length ≤ maxLen) (l : List (Int × List UInt8)) (hl : l.length ≤ 1000000) (hX : In64 (l.map Prod.fst)) :
    bodyW DC 13 [drv S B, .sl (l.map wrV)] [] = some (.tuple [.own 0 (planS S B l).1.length 0 (planS S B l).1.length, .int .i64 (planS S B l).2], [.dat true 2 ((planS S B l).1.map wrV)]) := by
  obtain ⟨w, hs, hw⟩ := swapping_eq S B hB
  have hC := Clean_eq S B hB
  unfold planS
  by_cases hv : VolP S B
  case neg =>
    rw [decide_eq_false hv] at hs
    rw [if_neg hv]
    (refine gives_iff ?_; refine go_func Tryd.f13 rfl rfl (by simp [Tryd.f13]) ?_; dsimp only [codeL, Tryd.f13, scL, sopsL, guardL, dstAt, loopKey])
    (repeat (first
    | (apply is_ok; (case hw => simp [hs]); (case he => simp [hs]; exact is_rfl))
    | (apply op_no; (case hw => simp [hs]))
    | refine op_nil ?_ | refine next_normal ?_ | refine go_seq ?_ | refine go_region ?_ | refine go_skip ?_ | refine go_block ?_ | refine inb_normal ?_
    | (apply go_yes; (case hc => simp [hs])) | (apply go_no; (case hc => simp [hs]))
    | refine go_exit ?_ | refine next_exit ?_ | refine inb_here ?_ | refine inb_past (by decide) ?_ | refine go_ret ?_ | refine next_ret ?_ | refine inb_ret ?_))
    (apply ends_ok; (case h1 => simp; exact is_rfl); (case h2 => simp; exact is_rfl))
    simp
  rw [if_pos hv]
  rw [decide_eq_true hv] at hs
  by_cases hc : CleanP S B
  case neg =>
    rw [decide_eq_false hc] at hC
    rw [if_neg hc]
    (refine gives_iff ?_; refine go_func Tryd.f13 rfl rfl (by simp [Tryd.f13]) ?_; dsimp only [codeL, Tryd.f13, scL, sopsL, guardL, dstAt, loopKey])
    (repeat (first
    | (apply is_ok; (case hw => simp [hs, hC]); (case he => simp [hs, hC]; exact is_rfl))
    | (apply op_no; (case hw => simp [hs, hC]))
    | refine op_nil ?_ | refine next_normal ?_ | refine go_seq ?_ | refine go_region ?_ | refine go_skip ?_ | refine go_block ?_ | refine inb_normal ?_
    | (apply go_yes; (case hc => simp [hs, hC])) | (apply go_no; (case hc => simp [hs, hC]))
    | refine go_exit ?_ | refine next_exit ?_ | refine inb_here ?_ | refine inb_past (by decide) ?_ | refine go_ret ?_ | refine next_ret ?_ | refine inb_ret ?_))
    (apply ends_ok; (case h1 => simp; exact is_rfl); (case h2 => simp; exact is_rfl))
    simp
  rw [if_pos hc]
  rw [decide_eq_true hc] at hC
  have hO := ofFiles_eq S B hB hv
  have hb := vol_bounds hv
  have hn : (S.length : Int) - swapW S ≤ 256 := by omega
  generalize (S.length : Int) - swapW S = n at hO hn
  have hM := Merge_eq l hl
  have hlen : (mergeL l).length ≤ l.length := by rw [mergeL_length]; exact keysL_length l
  generalize hR : wrongI n l = R
  (refine gives_iff ?_; refine go_func Tryd.f13 rfl rfl (by simp [Tryd.f13]) ?_; dsimp only [codeL, Tryd.f13, scL, sopsL, guardL, dstAt, loopKey])
  (repeat (first
    | (apply is_ok; (case hw => simp [hs, hC]); (case he => simp [hs, hC]; exact is_rfl))
    | (apply op_no; (case hw => simp [hs, hC]))
    | refine op_nil ?_ | refine next_normal ?_ | refine go_seq ?_ | refine go_region ?_ | refine go_skip ?_ | refine go_block ?_ | refine inb_normal ?_
    | (apply go_yes; (case hc => simp [hs, hC])) | (apply go_no; (case hc => simp [hs, hC]))
    | refine go_exit ?_ | refine next_exit ?_ | refine inb_here ?_ | refine inb_past (by decide) ?_ | refine go_ret ?_ | refine next_ret ?_ | refine inb_ret ?_))
  refine go_count l.length (fun i => [(1, .sl (l.map wrV)), (2, .ptr 0 1 0 0), (24, .sl (l.map wrV)), (25, .int .i64 l.length), (26, .int .i64 i)])
    (fun i => [.box (drv S B)]) (fun i => wrongI n (l.drop i) = R) (by simp) (by simpa using hR) fun i hi hI => ?_
  have hw' : IntKind.i64.wrap ((i : Int) + 1) = ((i + 1 : Nat) : Int) := wrap_id (by omega) (by omega)
  by_cases hlt : i < l.length
  · rw [wrongI_at hlt] at hI
    have gx : l[i]? = some (l[i]'hlt) := List.getElem?_eq_getElem hlt
    generalize hx0 : l[i]'hlt = x at hI gx
    obtain ⟨k, s⟩ := x
    dsimp only at hI
    have hOk := hO k
    by_cases h1 : 18 ≤ k ∧ k < n
    · rw [if_pos h1] at hI
      rw [decide_eq_true h1] at hOk
      by_cases h2 : 128 < s.length
      · rw [if_pos h2] at hI
        have h2' : (128 : Int) < s.length := by omega
        subst hI
        (repeat (first
    | (apply is_ok; (case hw => simp [hlt, gx, hx0, hOk, h2']); (case he => simp [hlt, gx, hx0, hOk, h2']; exact is_rfl))
    | (apply op_no; (case hw => simp [hlt, gx, hx0, hOk, h2']))
    | refine op_nil ?_ | refine next_normal ?_ | refine go_seq ?_ | refine go_region ?_ | refine go_skip ?_ | refine go_block ?_ | refine inb_normal ?_
    | (apply go_yes; (case hc => simp [hlt, gx, hx0, hOk, h2'])) | (apply go_no; (case hc => simp [hlt, gx, hx0, hOk, h2']))
    | refine go_exit ?_ | refine next_exit ?_ | refine inb_here ?_ | refine inb_past (by decide) ?_ | refine go_ret ?_ | refine next_ret ?_ | refine inb_ret ?_))
        (apply ends_ok; (case h1 => simp; exact is_rfl); (case h2 => simp; exact is_rfl))
        simp
      · rw [if_neg h2] at hI
        have h2' : ¬ (128 : Int) < s.length := by omega
        (repeat (first
    | (apply is_ok; (case hw => simp [hlt, gx, hx0, hOk, h2']); (case he => simp [hlt, gx, hx0, hOk, h2']; exact is_rfl))
    | (apply op_no; (case hw => simp [hlt, gx, hx0, hOk, h2']))
    | refine op_nil ?_ | refine next_normal ?_ | refine go_seq ?_ | refine go_region ?_ | refine go_skip ?_ | refine go_block ?_ | refine inb_normal ?_
    | (apply go_yes; (case hc => simp [hlt, gx, hx0, hOk, h2'])) | (apply go_no; (case hc => simp [hlt, gx, hx0, hOk, h2']))
    | refine go_exit ?_ | refine next_exit ?_ | refine inb_here ?_ | refine inb_past (by decide) ?_ | refine go_ret ?_ | refine next_ret ?_ | refine inb_ret ?_))
        exact ⟨hlt, by simp [hw'], hI⟩
    · rw [if_neg h1] at hI
      rw [decide_eq_false h1] at hOk
      subst hI
      (repeat (first
    | (apply is_ok; (case hw => simp [hlt, gx, hx0, hOk]); (case he => simp [hlt, gx, hx0, hOk]; exact is_rfl))
    | (apply op_no; (case hw => simp [hlt, gx, hx0, hOk]))
    | refine op_nil ?_ | refine next_normal ?_ | refine go_seq ?_ | refine go_region ?_ | refine go_skip ?_ | refine go_block ?_ | refine inb_normal ?_
    | (apply go_yes; (case hc => simp [hlt, gx, hx0, hOk])) | (apply go_no; (case hc => simp [hlt, gx, hx0, hOk]))
    | refine go_exit ?_ | refine next_exit ?_ | refine inb_here ?_ | refine inb_past (by decide) ?_ | refine go_ret ?_ | refine next_ret ?_ | refine inb_ret ?_))
      (apply ends_ok; (case h1 => simp; exact is_rfl); (case h2 => simp; exact is_rfl))
      simp
  · rw [List.drop_eq_nil_of_le (by omega), wrongI] at hI
    rw [← hI] at hR ⊢
    rw [if_pos rfl]
    have hall := fun w hw => wrongI_ok hR w (mergeL_sub hw)
    generalize mergeL l = m at hM hlen hall
    by_cases h16 : 16 < m.length
    · rw [if_pos h16]
      have h16' : (16 : Int) < m.length := by omega
      (repeat (first
    | (apply is_ok; (case hw => simp [hlt, hM, h16']); (case he => simp [hlt, hM, h16']; exact is_rfl))
    | (apply op_no; (case hw => simp [hlt, hM, h16']))
    | refine op_nil ?_ | refine next_normal ?_ | refine go_seq ?_ | refine go_region ?_ | refine go_skip ?_ | refine go_block ?_ | refine inb_normal ?_
    | (apply go_yes; (case hc => simp [hlt, hM, h16'])) | (apply go_no; (case hc => simp [hlt, hM, h16']))
    | refine go_exit ?_ | refine next_exit ?_ | refine inb_here ?_ | refine inb_past (by decide) ?_ | refine go_ret ?_ | refine next_ret ?_ | refine inb_ret ?_))
      (apply ends_ok; (case h1 => simp; exact is_rfl); (case h2 => simp; exact is_rfl))
      simp
    rw [if_neg h16]
    have h16' : ¬ (16 : Int) < m.length := by omega
    by_cases h0 : m.length = 0
    · rw [if_pos h0]
      (repeat (first
    | (apply is_ok; (case hw => simp [hlt, hM, h0]); (case he => simp [hlt, hM, h0]; exact is_rfl))
    | (apply op_no; (case hw => simp [hlt, hM, h0]))
    | refine op_nil ?_ | refine next_normal ?_ | refine go_seq ?_ | refine go_region ?_ | refine go_skip ?_ | refine go_block ?_ | refine inb_normal ?_
    | (apply go_yes; (case hc => simp [hlt, hM, h0])) | (apply go_no; (case hc => simp [hlt, hM, h0]))
    | refine go_exit ?_ | refine next_exit ?_ | refine inb_here ?_ | refine inb_past (by decide) ?_ | refine go_ret ?_ | refine next_ret ?_ | refine inb_ret ?_))
      (apply ends_ok; (case h1 => simp; exact is_rfl); (case h2 => simp; exact is_rfl))
      simp
    rw [if_neg h0]
    have hP := Put_eq (m.length : Int) (by omega)
    (repeat (first
    | (apply is_ok; (case hw => simp [hlt, hM, h16', h0, hP]); (case he => simp [hlt, hM, h16', h0, hP]; exact is_rfl))
    | (apply op_no; (case hw => simp [hlt, hM, h16', h0, hP]))
    | refine op_nil ?_ | refine next_normal ?_ | refine go_seq ?_ | refine go_region ?_ | refine go_skip ?_ | refine go_block ?_ | refine inb_normal ?_
    | (apply go_yes; (case hc => simp [hlt, hM, h16', h0, hP])) | (apply go_no; (case hc => simp [hlt, hM, h16', h0, hP]))
    | refine go_exit ?_ | refine next_exit ?_ | refine inb_here ?_ | refine inb_past (by decide) ?_ | refine go_ret ?_ | refine next_ret ?_ | refine inb_ret ?_))
    refine go_count m.length (fun i => [(10, .own 0 m.length 0 m.length), (11, .own 1 i 0 i), (12, .str (put2 m.length ++ (m.take i).flatMap (fun w => put2 w.1))), (54, .int .i64 m.length), (55, .int .i64 i)])
      (fun i => [.dat true 2 (((m.take i).map padW ++ m.drop i).map wrV), .dat true 2 (((logL m).take i).map wrV)]) (fun _ => True) (by simp) trivial fun i hi _ => ?_
    have hw' : IntKind.i64.wrap ((i : Int) + 1) = ((i + 1 : Nat) : Int) := wrap_id (by omega) (by omega)
    have hw2 : IntKind.i64.wrap (2 + (i : Int)) = 2 + (i : Int) := wrap_id (by omega) (by omega)
    have hll : (logL m).length = m.length := by simp [logL]
    by_cases hlt : i < m.length
    · have hx := hall _ (List.getElem_mem hlt)
      have hA0 : ∀ h, ((m.take i).map padW ++ m.drop i)[i]'h = m[i]'hlt := fun h => by
        rw [List.getElem_append_right (by rw [List.length_map, List.length_take]; omega), List.getElem_drop]
        congr 1
        rw [List.length_map, List.length_take]
        omega
      have hAl : ((m.take i).map padW ++ m.drop i).length = m.length := by rw [List.length_append, List.length_map, List.length_take, List.length_drop]; omega
      have hAs : ((m.take i).map padW ++ m.drop i).set i (padW (m[i]'hlt)) = (m.take (i + 1)).map padW ++ m.drop (i + 1) := by
        rw [List.drop_eq_getElem_cons hlt, List.set_append_right _ _ (by rw [List.length_map, List.length_take]; omega), List.take_succ_eq_append_getElem hlt, List.map_append]
        rw [show i - ((m.take i).map padW).length = 0 by rw [List.length_map, List.length_take]; omega]
        simp only [List.map_cons, List.map_nil, List.append_assoc, List.cons_append, List.nil_append, List.set_cons_zero]
      have hlt2 := logL_take hlt
      have hht := headL_take hlt
      generalize (m.take i).map padW ++ m.drop i = A at hA0 hAl hAs
      generalize m[i]'hlt = x at hx hA0 hAs hlt2 hht
      obtain ⟨k, s⟩ := x
      dsimp only at hx hlt2 hht
      have hPd := padded_eq s hx.2.2
      have hPu := Put_eq k (by omega)
      have hll2 : ((logL m).take i).length = i := by rw [List.length_take]; omega
      generalize (logL m).take i = G at hlt2 hll2
      generalize hhd : put2 m.length ++ (m.take i).flatMap (fun w => put2 w.1) = hd at hht
      have hhl : hd.length = 2 + 2 * i := by
        rw [← hhd, List.length_append, put2_length, flat_len, List.length_take]
        omega
      have r1 : (i + 1) * 24 ≤ room := by unfold room; omega
      have r2 : i + 1 ≤ room := by unfold room; omega
      have r3 : 2 + 2 * i + 2 ≤ room := by unfold room; omega
      rw [hlt2, hht, ← hAs]
      (repeat (first
    | (apply is_ok; (case hw => simp [hlt, hA0, hAl, hPd, hPu, hw2, hll2, hhl, r1, r2, r3]); (case he => simp [hlt, hA0, hAl, hPd, hPu, hw2, hll2, hhl, r1, r2, r3]; exact is_rfl))
    | (apply op_no; (case hw => simp [hlt, hA0, hAl, hPd, hPu, hw2, hll2, hhl, r1, r2, r3]))
    | refine op_nil ?_ | refine next_normal ?_ | refine go_seq ?_ | refine go_region ?_ | refine go_skip ?_ | refine go_block ?_ | refine inb_normal ?_
    | (apply go_yes; (case hc => simp [hlt, hA0, hAl, hPd, hPu, hw2, hll2, hhl, r1, r2, r3])) | (apply go_no; (case hc => simp [hlt, hA0, hAl, hPd, hPu, hw2, hll2, hhl, r1, r2, r3]))
    | refine go_exit ?_ | refine next_exit ?_ | refine inb_here ?_ | refine inb_past (by decide) ?_ | refine go_ret ?_ | refine next_ret ?_ | refine inb_ret ?_))
      refine ⟨hlt, ?_, trivial⟩
      simp [hw', padW, List.map_set, hAl]
    · have hin : i = m.length := by omega
      subst hin
      rw [List.take_length, List.drop_length, List.append_nil, show (logL m).take m.length = logL m by rw [← hll, List.take_length]]
      have hhl : (headL m).length ≤ 128 := by unfold headL; rw [List.length_append, put2_length, flat_len]; omega
      have hPd := padded_eq _ hhl
      have hbl := blank_pad
      have hml : (m.map padW).length = m.length := by simp
      show Go1 DC _ _ _ _ _ _
      rw [show put2 (m.length : Int) ++ m.flatMap (fun w => put2 w.1) = headL m from rfl]
      have hpl : (planL m).length = 2 * m.length + 2 := by unfold planL; rw [List.length_append, List.length_cons, List.length_append, hml, hll]; simp; omega
      unfold planL at hpl ⊢
      generalize logL m = L at hll hpl ⊢
      generalize m.map padW = D at hml hpl ⊢
      generalize padS (headL m) = hd at hPd
      generalize padS [] = zz at hbl
      obtain ⟨r1, r2, r3, r4, r5, r6⟩ := rooms (Nat.le_of_not_lt h16)
      have hq : m.length + (m.length + 1) = m.length + 1 + m.length := by rw [← Nat.add_assoc, Nat.add_right_comm]
      have hq2 : m.length + (m.length + 1 + 1) = m.length + 1 + m.length + 1 := by rw [← Nat.add_assoc, hq]
      (repeat (first
    | (apply is_ok; (case hw => simp [hPd, hbl, hll, hml, r1, r2, r3, r4, r5, r6, hq]); (case he => simp [hPd, hbl, hll, hml, r1, r2, r3, r4, r5, r6, hq]; exact is_rfl))
    | (apply op_no; (case hw => simp [hPd, hbl, hll, hml, r1, r2, r3, r4, r5, r6, hq]))
    | refine op_nil ?_ | refine next_normal ?_ | refine go_seq ?_ | refine go_region ?_ | refine go_skip ?_ | refine go_block ?_ | refine inb_normal ?_
    | (apply go_yes; (case hc => simp [hPd, hbl, hll, hml, r1, r2, r3, r4, r5, r6, hq])) | (apply go_no; (case hc => simp [hPd, hbl, hll, hml, r1, r2, r3, r4, r5, r6, hq]))
    | refine go_exit ?_ | refine next_exit ?_ | refine inb_here ?_ | refine inb_past (by decide) ?_ | refine go_ret ?_ | refine next_ret ?_ | refine inb_ret ?_))
      (apply ends_ok; (case h1 => simp; exact is_rfl); (case h2 => simp; exact is_rfl))
      simp [hll, hml, hq, hq2]
end Go.Abs
