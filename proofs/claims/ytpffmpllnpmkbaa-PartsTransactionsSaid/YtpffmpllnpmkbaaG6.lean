/- Proved here: what functions of the program compute, over the evaluator. No condition but those that each theorem states. -/
import Derived.Test.YtpffmpllnpmkbaaG5
import Derived.Test.YtpffmpllnpmkbaaG4
import Derived.Test.YtpffmpllnpmkbaaG3
namespace Go.Abs
open Go.Proofs
set_option maxRecDepth 100000
set_option linter.unusedSimpArgs false
set_option linter.unusedVariables false

theorem blank_pad : bodyW DC 61 [] [] = some (.str (padS []), []) := by
  have h := padded_eq [] (by simp)
  (refine gives_iff ?_; refine go_func Try.f61 rfl rfl (by simp [Try.f61]) ?_; dsimp only [codeL, Try.f61, scL, sopsL, guardL, dstAt, loopKey])
  (repeat (first
    | (apply is_ok; (case hw => simp [h]); (case he => simp [h]; exact is_rfl))
    | (apply op_no; (case hw => simp [h]))
    | refine op_nil ?_ | refine next_normal ?_ | refine go_seq ?_ | refine go_region ?_ | refine go_skip ?_ | refine go_block ?_ | refine inb_normal ?_
    | (apply go_yes; (case hc => simp [h])) | (apply go_no; (case hc => simp [h]))
    | refine go_exit ?_ | refine next_exit ?_ | refine inb_here ?_ | refine inb_past (by decide) ?_ | refine go_ret ?_ | refine next_ret ?_ | refine inb_ret ?_))
  (apply ends_ok; (case h1 => simp; exact is_rfl); (case h2 => simp; exact is_rfl))
  simp
def CleanP (S : List (List UInt8)) (B : List Int) : Prop := VolP S B ∧ (1 : Int) ∉ B ∧ S.getD 1 [] = padS []
instance (S : List (List UInt8)) (B : List Int) : Decidable (CleanP S B) := by unfold CleanP; infer_instance
theorem Clean_eq (S : List (List UInt8)) (B : List Int) (hB : B.length ≤ maxLen) : bodyW DC 39 [drv S B] [] = some (.bool (decide (CleanP S B)), []) := by
  obtain ⟨w, hs, hw⟩ := swapping_eq S B hB
  by_cases hv : VolP S B
  case neg =>
    rw [decide_eq_false hv] at hs
    rw [decide_eq_false (fun h => hv h.1)]
    (refine gives_iff ?_; refine go_func Try.f39 rfl rfl (by simp [Try.f39]) ?_; dsimp only [codeL, Try.f39, scL, sopsL, guardL, dstAt, loopKey])
    (repeat (first
    | (apply is_ok; (case hw => simp [hs]); (case he => simp [hs]; exact is_rfl))
    | (apply op_no; (case hw => simp [hs]))
    | refine op_nil ?_ | refine next_normal ?_ | refine go_seq ?_ | refine go_region ?_ | refine go_skip ?_ | refine go_block ?_ | refine inb_normal ?_
    | (apply go_yes; (case hc => simp [hs])) | (apply go_no; (case hc => simp [hs]))
    | refine go_exit ?_ | refine next_exit ?_ | refine inb_here ?_ | refine inb_past (by decide) ?_ | refine go_ret ?_ | refine next_ret ?_ | refine inb_ret ?_))
    (apply ends_ok; (case h1 => simp; exact is_rfl); (case h2 => simp; exact is_rfl))
    simp
  rw [decide_eq_true hv] at hs
  have hR := Read_eq S B hB 1
  have hb := blank_pad
  have hl := (vol_bounds hv).1
  by_cases h1 : (1 : Int) ∈ B
  · have e : readS S B 1 = ([], 21) := by unfold readS; rw [if_pos (by omega), if_pos h1]
    rw [e] at hR
    rw [decide_eq_false (fun h => h.2.1 h1)]
    (refine gives_iff ?_; refine go_func Try.f39 rfl rfl (by simp [Try.f39]) ?_; dsimp only [codeL, Try.f39, scL, sopsL, guardL, dstAt, loopKey])
    (repeat (first
    | (apply is_ok; (case hw => simp [hs, hR, hb]); (case he => simp [hs, hR, hb]; exact is_rfl))
    | (apply op_no; (case hw => simp [hs, hR, hb]))
    | refine op_nil ?_ | refine next_normal ?_ | refine go_seq ?_ | refine go_region ?_ | refine go_skip ?_ | refine go_block ?_ | refine inb_normal ?_
    | (apply go_yes; (case hc => simp [hs, hR, hb])) | (apply go_no; (case hc => simp [hs, hR, hb]))
    | refine go_exit ?_ | refine next_exit ?_ | refine inb_here ?_ | refine inb_past (by decide) ?_ | refine go_ret ?_ | refine next_ret ?_ | refine inb_ret ?_))
    (apply ends_ok; (case h1 => simp; exact is_rfl); (case h2 => simp; exact is_rfl))
    simp
  · have e : readS S B 1 = (S.getD 1 [], 0) := by unfold readS; rw [if_pos (by omega), if_neg h1]; rfl
    rw [e] at hR
    have hd : decide (CleanP S B) = (S.getD 1 [] == padS []) := by
      rw [Bool.eq_iff_iff]
      simp [CleanP, hv, h1]
    rw [hd]
    generalize padS [] = p at hb
    generalize S.getD 1 [] = q at hR
    (refine gives_iff ?_; refine go_func Try.f39 rfl rfl (by simp [Try.f39]) ?_; dsimp only [codeL, Try.f39, scL, sopsL, guardL, dstAt, loopKey])
    (repeat (first
    | (apply is_ok; (case hw => simp [hs, hR, hb]); (case he => simp [hs, hR, hb]; exact is_rfl))
    | (apply op_no; (case hw => simp [hs, hR, hb]))
    | refine op_nil ?_ | refine next_normal ?_ | refine go_seq ?_ | refine go_region ?_ | refine go_skip ?_ | refine go_block ?_ | refine inb_normal ?_
    | (apply go_yes; (case hc => simp [hs, hR, hb])) | (apply go_no; (case hc => simp [hs, hR, hb]))
    | refine go_exit ?_ | refine next_exit ?_ | refine inb_here ?_ | refine inb_past (by decide) ?_ | refine go_ret ?_ | refine next_ret ?_ | refine inb_ret ?_))
    (apply ends_ok; (case h1 => simp; exact is_rfl); (case h2 => simp; exact is_rfl))
    simp
theorem ofFiles_eq (S : List (List UInt8)) (B : List Int) (hB : B.length ≤ maxLen) (hv : VolP S B) (k : Int) : bodyW DC 59 [drv S B, .int .i64 k] [] = some (.bool (decide (18 ≤ k ∧ k < S.length - swapW S)), []) := by
  obtain ⟨w, hs, hw⟩ := swapping_eq S B hB
  obtain rfl := hw hv
  rw [decide_eq_true hv] at hs
  have hb := vol_bounds hv
  have f1 : IntKind.i64.wrap ((S.length : Int) - swapW S) = S.length - swapW S := wrap_id (by omega) (by omega)
  by_cases h1 : 18 ≤ k
  · (refine gives_iff ?_; refine go_func Try.f59 rfl rfl (by simp [Try.f59]) ?_; dsimp only [codeL, Try.f59, scL, sopsL, guardL, dstAt, loopKey])
    (repeat (first
    | (apply is_ok; (case hw => simp [hs, h1, f1]); (case he => simp [hs, h1, f1]; exact is_rfl))
    | (apply op_no; (case hw => simp [hs, h1, f1]))
    | refine op_nil ?_ | refine next_normal ?_ | refine go_seq ?_ | refine go_region ?_ | refine go_skip ?_ | refine go_block ?_ | refine inb_normal ?_
    | (apply go_yes; (case hc => simp [hs, h1, f1])) | (apply go_no; (case hc => simp [hs, h1, f1]))
    | refine go_exit ?_ | refine next_exit ?_ | refine inb_here ?_ | refine inb_past (by decide) ?_ | refine go_ret ?_ | refine next_ret ?_ | refine inb_ret ?_))
    (apply ends_ok; (case h1 => simp; exact is_rfl); (case h2 => simp; exact is_rfl))
    simp [h1]
  · (refine gives_iff ?_; refine go_func Try.f59 rfl rfl (by simp [Try.f59]) ?_; dsimp only [codeL, Try.f59, scL, sopsL, guardL, dstAt, loopKey])
    (repeat (first
    | (apply is_ok; (case hw => simp [hs, h1]); (case he => simp [hs, h1]; exact is_rfl))
    | (apply op_no; (case hw => simp [hs, h1]))
    | refine op_nil ?_ | refine next_normal ?_ | refine go_seq ?_ | refine go_region ?_ | refine go_skip ?_ | refine go_block ?_ | refine inb_normal ?_
    | (apply go_yes; (case hc => simp [hs, h1])) | (apply go_no; (case hc => simp [hs, h1]))
    | refine go_exit ?_ | refine next_exit ?_ | refine inb_here ?_ | refine inb_past (by decide) ?_ | refine go_ret ?_ | refine next_ret ?_ | refine inb_ret ?_))
    (apply ends_ok; (case h1 => simp; exact is_rfl); (case h2 => simp; exact is_rfl))
    simp [h1]

/-- What is wrong with the first wrong write. -/
def wrongI (n : Int) : List (Int × List UInt8) → Int
  | [] => 0
  | w :: l => if 18 ≤ w.1 ∧ w.1 < n then if 128 < w.2.length then 7 else wrongI n l else 2
theorem wrongI_at {n : Int} {l : List (Int × List UInt8)} {i : Nat} (h : i < l.length) : wrongI n (l.drop i) = if 18 ≤ l[i].1 ∧ l[i].1 < n then if 128 < l[i].2.length then 7 else wrongI n (l.drop (i + 1)) else 2 := by
  rw [List.drop_eq_getElem_cons h, wrongI]
def padW (w : Int × List UInt8) : Int × List UInt8 := (w.1, padS w.2)
def logL (l : List (Int × List UInt8)) : List (Int × List UInt8) := (List.range l.length).map fun i : Nat => (2 + (i : Int), padS (l.getD i (0, [])).2)
def headL (l : List (Int × List UInt8)) : List UInt8 := put2 l.length ++ l.flatMap fun w => put2 w.1
/-- The writes of a transaction. -/
def planL (m : List (Int × List UInt8)) : List (Int × List UInt8) := logL m ++ ((1, padS (headL m)) :: (m.map padW ++ [(1, padS [])]))
def planS (S : List (List UInt8)) (B : List Int) (l : List (Int × List UInt8)) : List (Int × List UInt8) × Int :=
  if VolP S B then if CleanP S B then if wrongI (S.length - swapW S) l = 0 then
    if 16 < (mergeL l).length then ([], 12) else if (mergeL l).length = 0 then ([], 0) else (planL (mergeL l), 0)
  else ([], wrongI (S.length - swapW S) l) else ([], 11) else ([], 9)

theorem foldl_none {k : Int} : ∀ {l : List (Int × List UInt8)} {a : List UInt8}, (∀ w ∈ l, w.1 ≠ k) → l.foldl (fun a w => if w.1 = k then w.2 else a) a = a
  | [], a, _ => rfl
  | w :: l, a, h => by
    rw [List.foldl_cons, if_neg (h w (List.mem_cons_self ..))]
    exact foldl_none fun w hw => h w (List.mem_cons_of_mem _ hw)
theorem foldl_last {k : Int} : ∀ {l : List (Int × List UInt8)} {a : List UInt8}, (∃ w ∈ l, w.1 = k) → (k, l.foldl (fun a w => if w.1 = k then w.2 else a) a) ∈ l
  | [], a, h => by simp at h
  | w :: l, a, h => by
    rw [List.foldl_cons]
    by_cases hl : ∃ w ∈ l, w.1 = k
    · exact List.mem_cons_of_mem _ (foldl_last hl)
    · rw [foldl_none (fun w hw e => hl ⟨w, hw, e⟩)]
      obtain ⟨w', hw', e⟩ := h
      rcases List.mem_cons.1 hw' with rfl | hw'
      · rw [if_pos e, ← e]
        exact List.mem_cons_self ..
      · exact absurd ⟨w', hw', e⟩ hl
theorem mergeL_sub {l : List (Int × List UInt8)} {w : Int × List UInt8} (h : w ∈ mergeL l) : w ∈ l := by
  unfold mergeL at h
  obtain ⟨k, hk, rfl⟩ := List.mem_map.1 h
  have hk' : k ∈ keysL l := sorted_mem.1 hk
  exact foldl_last (mem_keysL.1 hk')
theorem wrongI_ok {n : Int} : ∀ {l : List (Int × List UInt8)}, wrongI n l = 0 → ∀ w ∈ l, 18 ≤ w.1 ∧ w.1 < n ∧ w.2.length ≤ 128
  | [], _, w, hw => by simp at hw
  | x :: l, h, w, hw => by
    rw [wrongI] at h
    split at h
    · rename_i h1
      split at h
      · cases h
      · rename_i h2
        rcases List.mem_cons.1 hw with rfl | hw
        · exact ⟨h1.1, h1.2, by omega⟩
        · exact wrongI_ok h w hw
    · cases h
theorem logL_take {m : List (Int × List UInt8)} {i : Nat} (h : i < m.length) : (logL m).take (i + 1) = (logL m).take i ++ [(2 + (i : Int), padS (m[i]'h).2)] := by
  have hl : i < (logL m).length := by simpa [logL] using h
  rw [List.take_succ_eq_append_getElem hl]
  simp [logL, h]
theorem headL_take {m : List (Int × List UInt8)} {i : Nat} (h : i < m.length) : put2 m.length ++ (m.take (i + 1)).flatMap (fun w => put2 w.1) = (put2 m.length ++ (m.take i).flatMap (fun w => put2 w.1)) ++ put2 (m[i]'h).1 := by
  rw [List.take_succ_eq_append_getElem h, List.flatMap_append]
  simp

theorem flat_len : ∀ l : List (Int × List UInt8), (l.flatMap fun w => put2 w.1).length = 2 * l.length
  | [] => rfl
  | w :: l => by rw [List.flatMap_cons, List.length_append, put2_length, flat_len l, List.length_cons]; omega
theorem rooms {n : Nat} (h : n ≤ 16) : (n + 1) * 24 ≤ room ∧ n + 1 ≤ room ∧ (n + 1 + n) * 24 ≤ room ∧ n + 1 + n ≤ room ∧ (n + 1 + n + 1) * 24 ≤ room ∧ n + 1 + n + 1 ≤ room := by
  unfold room
  omega
set_option maxHeartbeats 40000000 in
theorem Plan_eq (S : List (List UInt8)) (B : List Int) (hB : B.length ≤ maxLen) (l : List (Int × List UInt8)) (hl : l.length ≤ 1000000) (hX : In64 (l.map Prod.fst)) :
    bodyW DC 35 [drv S B, .sl (l.map wrV)] [] = some (.tuple [.own 0 (planS S B l).1.length 0 (planS S B l).1.length, .int .i64 (planS S B l).2], [.dat true 2 ((planS S B l).1.map wrV)]) := by
  obtain ⟨w, hs, hw⟩ := swapping_eq S B hB
  have hC := Clean_eq S B hB
  unfold planS
  by_cases hv : VolP S B
  case neg =>
    rw [decide_eq_false hv] at hs
    rw [if_neg hv]
    (refine gives_iff ?_; refine go_func Try.f35 rfl rfl (by simp [Try.f35]) ?_; dsimp only [codeL, Try.f35, scL, sopsL, guardL, dstAt, loopKey])
    (repeat (first
    | (apply is_ok; (case hw => simp [hs]); (case he => simp [hs]; exact is_rfl))
    | (apply op_no; (case hw => simp [hs]))
    | refine op_nil ?_ | refine next_normal ?_ | refine go_seq ?_ | refine go_region ?_ | refine go_skip ?_ | refine go_block ?_ | refine inb_normal ?_
    | (apply go_yes; (case hc => simp [hs])) | (apply go_no; (case hc => simp [hs]))
    | refine go_exit ?_ | refine next_exit ?_ | refine inb_here ?_ | refine inb_past (by decide) ?_ | refine go_ret ?_ | refine next_ret ?_ | refine inb_ret ?_))
    (apply ends_ok; (case h1 => simp; exact is_rfl); (case h2 => simp; exact is_rfl))
    simp
  rw [if_pos hv]
  rw [decide_eq_true hv] at hs
  by_cases hc : CleanP S B
  case neg =>
    rw [decide_eq_false hc] at hC
    rw [if_neg hc]
    (refine gives_iff ?_; refine go_func Try.f35 rfl rfl (by simp [Try.f35]) ?_; dsimp only [codeL, Try.f35, scL, sopsL, guardL, dstAt, loopKey])
    (repeat (first
    | (apply is_ok; (case hw => simp [hs, hC]); (case he => simp [hs, hC]; exact is_rfl))
    | (apply op_no; (case hw => simp [hs, hC]))
    | refine op_nil ?_ | refine next_normal ?_ | refine go_seq ?_ | refine go_region ?_ | refine go_skip ?_ | refine go_block ?_ | refine inb_normal ?_
    | (apply go_yes; (case hc => simp [hs, hC])) | (apply go_no; (case hc => simp [hs, hC]))
    | refine go_exit ?_ | refine next_exit ?_ | refine inb_here ?_ | refine inb_past (by decide) ?_ | refine go_ret ?_ | refine next_ret ?_ | refine inb_ret ?_))
    (apply ends_ok; (case h1 => simp; exact is_rfl); (case h2 => simp; exact is_rfl))
    simp
  rw [if_pos hc]
  rw [decide_eq_true hc] at hC
  have hO := ofFiles_eq S B hB hv
  have hb := vol_bounds hv
  have hn : (S.length : Int) - swapW S ≤ 256 := by omega
  generalize (S.length : Int) - swapW S = n at hO hn
  have hM := Merge_eq l hl
  have hlen : (mergeL l).length ≤ l.length := by rw [mergeL_length]; exact keysL_length l
  generalize hR : wrongI n l = R
  (refine gives_iff ?_; refine go_func Try.f35 rfl rfl (by simp [Try.f35]) ?_; dsimp only [codeL, Try.f35, scL, sopsL, guardL, dstAt, loopKey])
  (repeat (first
    | (apply is_ok; (case hw => simp [hs, hC]); (case he => simp [hs, hC]; exact is_rfl))
    | (apply op_no; (case hw => simp [hs, hC]))
    | refine op_nil ?_ | refine next_normal ?_ | refine go_seq ?_ | refine go_region ?_ | refine go_skip ?_ | refine go_block ?_ | refine inb_normal ?_
    | (apply go_yes; (case hc => simp [hs, hC])) | (apply go_no; (case hc => simp [hs, hC]))
    | refine go_exit ?_ | refine next_exit ?_ | refine inb_here ?_ | refine inb_past (by decide) ?_ | refine go_ret ?_ | refine next_ret ?_ | refine inb_ret ?_))
  refine go_count l.length (fun i => [(1, .sl (l.map wrV)), (2, .ptr 0 1 0 0), (24, .sl (l.map wrV)), (25, .int .i64 l.length), (26, .int .i64 i)])
    (fun i => [.box (drv S B)]) (fun i => wrongI n (l.drop i) = R) (by simp) (by simpa using hR) fun i hi hI => ?_
  have hw' : IntKind.i64.wrap ((i : Int) + 1) = ((i + 1 : Nat) : Int) := wrap_id (by omega) (by omega)
  by_cases hlt : i < l.length
  · rw [wrongI_at hlt] at hI
    have gx : l[i]? = some (l[i]'hlt) := List.getElem?_eq_getElem hlt
    generalize hx0 : l[i]'hlt = x at hI gx
    obtain ⟨k, s⟩ := x
    dsimp only at hI
    have hOk := hO k
    by_cases h1 : 18 ≤ k ∧ k < n
    · rw [if_pos h1] at hI
      rw [decide_eq_true h1] at hOk
      by_cases h2 : 128 < s.length
      · rw [if_pos h2] at hI
        have h2' : (128 : Int) < s.length := by omega
        subst hI
        (repeat (first
    | (apply is_ok; (case hw => simp [hlt, gx, hx0, hOk, h2']); (case he => simp [hlt, gx, hx0, hOk, h2']; exact is_rfl))
    | (apply op_no; (case hw => simp [hlt, gx, hx0, hOk, h2']))
    | refine op_nil ?_ | refine next_normal ?_ | refine go_seq ?_ | refine go_region ?_ | refine go_skip ?_ | refine go_block ?_ | refine inb_normal ?_
    | (apply go_yes; (case hc => simp [hlt, gx, hx0, hOk, h2'])) | (apply go_no; (case hc => simp [hlt, gx, hx0, hOk, h2']))
    | refine go_exit ?_ | refine next_exit ?_ | refine inb_here ?_ | refine inb_past (by decide) ?_ | refine go_ret ?_ | refine next_ret ?_ | refine inb_ret ?_))
        (apply ends_ok; (case h1 => simp; exact is_rfl); (case h2 => simp; exact is_rfl))
        simp
      · rw [if_neg h2] at hI
        have h2' : ¬ (128 : Int) < s.length := by omega
        (repeat (first
    | (apply is_ok; (case hw => simp [hlt, gx, hx0, hOk, h2']); (case he => simp [hlt, gx, hx0, hOk, h2']; exact is_rfl))
    | (apply op_no; (case hw => simp [hlt, gx, hx0, hOk, h2']))
    | refine op_nil ?_ | refine next_normal ?_ | refine go_seq ?_ | refine go_region ?_ | refine go_skip ?_ | refine go_block ?_ | refine inb_normal ?_
    | (apply go_yes; (case hc => simp [hlt, gx, hx0, hOk, h2'])) | (apply go_no; (case hc => simp [hlt, gx, hx0, hOk, h2']))
    | refine go_exit ?_ | refine next_exit ?_ | refine inb_here ?_ | refine inb_past (by decide) ?_ | refine go_ret ?_ | refine next_ret ?_ | refine inb_ret ?_))
        exact ⟨hlt, by simp [hw'], hI⟩
    · rw [if_neg h1] at hI
      rw [decide_eq_false h1] at hOk
      subst hI
      (repeat (first
    | (apply is_ok; (case hw => simp [hlt, gx, hx0, hOk]); (case he => simp [hlt, gx, hx0, hOk]; exact is_rfl))
    | (apply op_no; (case hw => simp [hlt, gx, hx0, hOk]))
    | refine op_nil ?_ | refine next_normal ?_ | refine go_seq ?_ | refine go_region ?_ | refine go_skip ?_ | refine go_block ?_ | refine inb_normal ?_
    | (apply go_yes; (case hc => simp [hlt, gx, hx0, hOk])) | (apply go_no; (case hc => simp [hlt, gx, hx0, hOk]))
    | refine go_exit ?_ | refine next_exit ?_ | refine inb_here ?_ | refine inb_past (by decide) ?_ | refine go_ret ?_ | refine next_ret ?_ | refine inb_ret ?_))
      (apply ends_ok; (case h1 => simp; exact is_rfl); (case h2 => simp; exact is_rfl))
      simp
  · rw [List.drop_eq_nil_of_le (by omega), wrongI] at hI
    rw [← hI] at hR ⊢
    rw [if_pos rfl]
    have hall := fun w hw => wrongI_ok hR w (mergeL_sub hw)
    generalize mergeL l = m at hM hlen hall
    by_cases h16 : 16 < m.length
    · rw [if_pos h16]
      have h16' : (16 : Int) < m.length := by omega
      (repeat (first
    | (apply is_ok; (case hw => simp [hlt, hM, h16']); (case he => simp [hlt, hM, h16']; exact is_rfl))
    | (apply op_no; (case hw => simp [hlt, hM, h16']))
    | refine op_nil ?_ | refine next_normal ?_ | refine go_seq ?_ | refine go_region ?_ | refine go_skip ?_ | refine go_block ?_ | refine inb_normal ?_
    | (apply go_yes; (case hc => simp [hlt, hM, h16'])) | (apply go_no; (case hc => simp [hlt, hM, h16']))
    | refine go_exit ?_ | refine next_exit ?_ | refine inb_here ?_ | refine inb_past (by decide) ?_ | refine go_ret ?_ | refine next_ret ?_ | refine inb_ret ?_))
      (apply ends_ok; (case h1 => simp; exact is_rfl); (case h2 => simp; exact is_rfl))
      simp
    rw [if_neg h16]
    have h16' : ¬ (16 : Int) < m.length := by omega
    by_cases h0 : m.length = 0
    · rw [if_pos h0]
      (repeat (first
    | (apply is_ok; (case hw => simp [hlt, hM, h0]); (case he => simp [hlt, hM, h0]; exact is_rfl))
    | (apply op_no; (case hw => simp [hlt, hM, h0]))
    | refine op_nil ?_ | refine next_normal ?_ | refine go_seq ?_ | refine go_region ?_ | refine go_skip ?_ | refine go_block ?_ | refine inb_normal ?_
    | (apply go_yes; (case hc => simp [hlt, hM, h0])) | (apply go_no; (case hc => simp [hlt, hM, h0]))
    | refine go_exit ?_ | refine next_exit ?_ | refine inb_here ?_ | refine inb_past (by decide) ?_ | refine go_ret ?_ | refine next_ret ?_ | refine inb_ret ?_))
      (apply ends_ok; (case h1 => simp; exact is_rfl); (case h2 => simp; exact is_rfl))
      simp
    rw [if_neg h0]
    have hP := Put_eq (m.length : Int) (by omega)
    (repeat (first
    | (apply is_ok; (case hw => simp [hlt, hM, h16', h0, hP]); (case he => simp [hlt, hM, h16', h0, hP]; exact is_rfl))
    | (apply op_no; (case hw => simp [hlt, hM, h16', h0, hP]))
    | refine op_nil ?_ | refine next_normal ?_ | refine go_seq ?_ | refine go_region ?_ | refine go_skip ?_ | refine go_block ?_ | refine inb_normal ?_
    | (apply go_yes; (case hc => simp [hlt, hM, h16', h0, hP])) | (apply go_no; (case hc => simp [hlt, hM, h16', h0, hP]))
    | refine go_exit ?_ | refine next_exit ?_ | refine inb_here ?_ | refine inb_past (by decide) ?_ | refine go_ret ?_ | refine next_ret ?_ | refine inb_ret ?_))
    refine go_count m.length (fun i => [(10, .own 0 m.length 0 m.length), (11, .own 1 i 0 i), (12, .str (put2 m.length ++ (m.take i).flatMap (fun w => put2 w.1))), (54, .int .i64 m.length), (55, .int .i64 i)])
      (fun i => [.dat true 2 (((m.take i).map padW ++ m.drop i).map wrV), .dat true 2 (((logL m).take i).map wrV)]) (fun _ => True) (by simp) trivial fun i hi _ => ?_
    have hw' : IntKind.i64.wrap ((i : Int) + 1) = ((i + 1 : Nat) : Int) := wrap_id (by omega) (by omega)
    have hw2 : IntKind.i64.wrap (2 + (i : Int)) = 2 + (i : Int) := wrap_id (by omega) (by omega)
    have hll : (logL m).length = m.length := by simp [logL]
    by_cases hlt : i < m.length
    · have hx := hall _ (List.getElem_mem hlt)
      have hA0 : ∀ h, ((m.take i).map padW ++ m.drop i)[i]'h = m[i]'hlt := fun h => by
        rw [List.getElem_append_right (by rw [List.length_map, List.length_take]; omega), List.getElem_drop]
        congr 1
        rw [List.length_map, List.length_take]
        omega
      have hAl : ((m.take i).map padW ++ m.drop i).length = m.length := by rw [List.length_append, List.length_map, List.length_take, List.length_drop]; omega
      have hAs : ((m.take i).map padW ++ m.drop i).set i (padW (m[i]'hlt)) = (m.take (i + 1)).map padW ++ m.drop (i + 1) := by
        rw [List.drop_eq_getElem_cons hlt, List.set_append_right _ _ (by rw [List.length_map, List.length_take]; omega), List.take_succ_eq_append_getElem hlt, List.map_append]
        rw [show i - ((m.take i).map padW).length = 0 by rw [List.length_map, List.length_take]; omega]
        simp only [List.map_cons, List.map_nil, List.append_assoc, List.cons_append, List.nil_append, List.set_cons_zero]
      have hlt2 := logL_take hlt
      have hht := headL_take hlt
      generalize (m.take i).map padW ++ m.drop i = A at hA0 hAl hAs
      generalize m[i]'hlt = x at hx hA0 hAs hlt2 hht
      obtain ⟨k, s⟩ := x
      dsimp only at hx hlt2 hht
      have hPd := padded_eq s hx.2.2
      have hPu := Put_eq k (by omega)
      have hll2 : ((logL m).take i).length = i := by rw [List.length_take]; omega
      generalize (logL m).take i = G at hlt2 hll2
      generalize hhd : put2 m.length ++ (m.take i).flatMap (fun w => put2 w.1) = hd at hht
      have hhl : hd.length = 2 + 2 * i := by
        rw [← hhd, List.length_append, put2_length, flat_len, List.length_take]
        omega
      have r1 : (i + 1) * 24 ≤ room := by unfold room; omega
      have r2 : i + 1 ≤ room := by unfold room; omega
      have r3 : 2 + 2 * i + 2 ≤ room := by unfold room; omega
      rw [hlt2, hht, ← hAs]
      (repeat (first
    | (apply is_ok; (case hw => simp [hlt, hA0, hAl, hPd, hPu, hw2, hll2, hhl, r1, r2, r3]); (case he => simp [hlt, hA0, hAl, hPd, hPu, hw2, hll2, hhl, r1, r2, r3]; exact is_rfl))
    | (apply op_no; (case hw => simp [hlt, hA0, hAl, hPd, hPu, hw2, hll2, hhl, r1, r2, r3]))
    | refine op_nil ?_ | refine next_normal ?_ | refine go_seq ?_ | refine go_region ?_ | refine go_skip ?_ | refine go_block ?_ | refine inb_normal ?_
    | (apply go_yes; (case hc => simp [hlt, hA0, hAl, hPd, hPu, hw2, hll2, hhl, r1, r2, r3])) | (apply go_no; (case hc => simp [hlt, hA0, hAl, hPd, hPu, hw2, hll2, hhl, r1, r2, r3]))
    | refine go_exit ?_ | refine next_exit ?_ | refine inb_here ?_ | refine inb_past (by decide) ?_ | refine go_ret ?_ | refine next_ret ?_ | refine inb_ret ?_))
      refine ⟨hlt, ?_, trivial⟩
      simp [hw', padW, List.map_set, hAl]
    · have hin : i = m.length := by omega
      subst hin
      rw [List.take_length, List.drop_length, List.append_nil, show (logL m).take m.length = logL m by rw [← hll, List.take_length]]
      have hhl : (headL m).length ≤ 128 := by unfold headL; rw [List.length_append, put2_length, flat_len]; omega
      have hPd := padded_eq _ hhl
      have hbl := blank_pad
      have hml : (m.map padW).length = m.length := by simp
      show Go1 DC _ _ _ _ _ _
      rw [show put2 (m.length : Int) ++ m.flatMap (fun w => put2 w.1) = headL m from rfl]
      have hpl : (planL m).length = 2 * m.length + 2 := by unfold planL; rw [List.length_append, List.length_cons, List.length_append, hml, hll]; simp; omega
      unfold planL at hpl ⊢
      generalize logL m = L at hll hpl ⊢
      generalize m.map padW = D at hml hpl ⊢
      generalize padS (headL m) = hd at hPd
      generalize padS [] = zz at hbl
      obtain ⟨r1, r2, r3, r4, r5, r6⟩ := rooms (Nat.le_of_not_lt h16)
      have hq : m.length + (m.length + 1) = m.length + 1 + m.length := by rw [← Nat.add_assoc, Nat.add_right_comm]
      have hq2 : m.length + (m.length + 1 + 1) = m.length + 1 + m.length + 1 := by rw [← Nat.add_assoc, hq]
      (repeat (first
    | (apply is_ok; (case hw => simp [hPd, hbl, hll, hml, r1, r2, r3, r4, r5, r6, hq]); (case he => simp [hPd, hbl, hll, hml, r1, r2, r3, r4, r5, r6, hq]; exact is_rfl))
    | (apply op_no; (case hw => simp [hPd, hbl, hll, hml, r1, r2, r3, r4, r5, r6, hq]))
    | refine op_nil ?_ | refine next_normal ?_ | refine go_seq ?_ | refine go_region ?_ | refine go_skip ?_ | refine go_block ?_ | refine inb_normal ?_
    | (apply go_yes; (case hc => simp [hPd, hbl, hll, hml, r1, r2, r3, r4, r5, r6, hq])) | (apply go_no; (case hc => simp [hPd, hbl, hll, hml, r1, r2, r3, r4, r5, r6, hq]))
    | refine go_exit ?_ | refine next_exit ?_ | refine inb_here ?_ | refine inb_past (by decide) ?_ | refine go_ret ?_ | refine next_ret ?_ | refine inb_ret ?_))
      (apply ends_ok; (case h1 => simp; exact is_rfl); (case h2 => simp; exact is_rfl))
      simp [hll, hml, hq, hq2]
end Go.Abs

namespace Go.Abs
open Go.Proofs
set_option maxRecDepth 100000
set_option linter.unusedSimpArgs false
set_option linter.unusedVariables false

def trimL : List UInt8 → List UInt8
  | [] => []
  | b :: l => if b = 0 then trimL l else b :: l
def trimR (s : List UInt8) : List UInt8 := (trimL s.reverse).reverse
theorem trimL_length : ∀ s : List UInt8, (trimL s).length ≤ s.length
  | [] => by simp [trimL]
  | b :: l => by
    rw [trimL]
    split
    · have := trimL_length l
      rw [List.length_cons]; omega
    · exact Nat.le_refl _
theorem trimR_length (s : List UInt8) : (trimR s).length ≤ s.length := by
  unfold trimR
  have := trimL_length s.reverse
  simpa using this
theorem trimR_snoc (t : List UInt8) (x : UInt8) : trimR (t ++ [x]) = if x = 0 then trimR t else t ++ [x] := by
  unfold trimR
  rw [List.reverse_append]
  show (trimL (x :: t.reverse)).reverse = _
  rw [trimL]
  split <;> simp
theorem trimL_nil : ∀ s : List UInt8, trimL s = [] ↔ ∀ b ∈ s, b = 0
  | [] => by simp [trimL]
  | b :: l => by
    rw [trimL]
    split
    · rename_i h
      rw [trimL_nil l]
      simp [h]
    · rename_i h
      simp [h]
theorem trim_nil (s : List UInt8) : trimL (trimR s) = [] ↔ ∀ b ∈ s, b = 0 := by
  rw [trimL_nil]
  constructor
  · intro h
    have h2 : trimR s = [] ∨ trimR s ≠ [] := Classical.em _
    rcases h2 with h2 | h2
    · unfold trimR at h2
      rw [List.reverse_eq_nil_iff, trimL_nil] at h2
      intro b hb
      exact h2 b (List.mem_reverse.2 hb)
    · exfalso
      rcases List.eq_nil_or_concat (trimR s) with h3 | ⟨t, x, h3⟩
      · exact h2 h3
      · have hx : x = 0 := h x (by rw [h3]; simp)
        unfold trimR at h3
        have h4 : trimL s.reverse = x :: t.reverse := by
          have := congrArg List.reverse h3
          simpa using this
        have : ∀ (l : List UInt8) y r, trimL l = y :: r → y ≠ 0 := by
          intro l
          induction l with
          | nil => intro y r h; cases h
          | cons b l ih =>
            intro y r h
            rw [trimL] at h
            split at h
            · exact ih y r h
            · rename_i hb
              cases h
              exact hb
        exact this _ _ _ h4 hx
  · intro h b hb
    unfold trimR at hb
    rw [List.mem_reverse] at hb
    have : ∀ (l : List UInt8), (∀ b ∈ l, b = 0) → trimL l = [] := fun l h => (trimL_nil l).2 h
    rw [this s.reverse (fun b hb => h b (List.mem_reverse.1 hb))] at hb
    cases hb

end Go.Abs

namespace Go.Abs
open Go.Proofs
set_option maxRecDepth 100000
set_option linter.unusedSimpArgs false
set_option linter.unusedVariables false

theorem Get_wd (s : List UInt8) (j : Nat) (a : Int) (ha : a = 2 * (j : Int)) (h : 2 * j + 2 ≤ s.length) (hs : s.length ≤ 1000000) :
    bodyW DC 77 [.str s, .int .i64 a, .int .i64 2] [] = some (.tuple [.int .i64 (wd s j), .int .i64 (a + 2), .int .i64 0], []) := by
  have := Get_eq s (2 * j) h hs
  rw [show ((2 * j : Nat) : Int) = a by omega] at this
  rw [this]
  unfold wd
  rw [getD_at (by omega), getD_at (by omega)]
theorem GetR_wd (s : List UInt8) (j : Nat) (a : Int) (ha : a = 2 * (j : Int)) (h : 2 * j + 2 ≤ s.length) (hs : s.length ≤ 1000000) :
    bodyW DC 56 [.str s, .int .i64 a, .int .i64 2] [] = some (.tuple [.int .i64 (wd s j), .int .i64 (a + 2), .int .i64 0], []) := by
  have := GetR_eq s (2 * j) h hs
  rw [show ((2 * j : Nat) : Int) = a by omega] at this
  rw [this]
  unfold wd
  rw [getD_at (by omega), getD_at (by omega)]

def logK (s : List UInt8) (n : Nat) : List Int := (List.range n).map fun i => wd s (i + 1)
theorem logK_succ (s : List UInt8) (n : Nat) : logK s (n + 1) = logK s n ++ [wd s (n + 1)] := by simp [logK, List.range_succ]
theorem logK_length (s : List UInt8) (n : Nat) : (logK s n).length = n := by simp [logK]
def lastK (s : List UInt8) (i : Nat) : Int := if i = 0 then -1 else wd s i
/-- Are the first n sectors of a log header right? -/
def okK (e : Int) (s : List UInt8) : Nat → Bool
  | 0 => true
  | i + 1 => okK e s i && decide (lastK s i < wd s (i + 1) ∧ 18 ≤ wd s (i + 1) ∧ wd s (i + 1) < e)
theorem okK_le {e : Int} {s : List UInt8} : ∀ {n i : Nat}, okK e s n = true → i ≤ n → okK e s i = true
  | 0, i, h, hi => by obtain rfl : i = 0 := by omega
                      exact h
  | n + 1, i, h, hi => by
    by_cases h1 : i = n + 1
    · subst h1; exact h
    · rw [okK, Bool.and_eq_true] at h
      exact okK_le h.1 (by omega)
theorem okK_no {e : Int} {s : List UInt8} {n i : Nat} (h : okK e s (i + 1) = false) (hi : i < n) : okK e s n = false := by
  cases hn : okK e s n with
  | false => rfl
  | true => rw [okK_le hn (by omega)] at h; cases h
def zeroFrom (s : List UInt8) (k : Nat) : Prop := ∀ b ∈ s.drop k, b = 0
instance (s : List UInt8) (k : Nat) : Decidable (zeroFrom s k) := by unfold zeroFrom; infer_instance
/-- The sectors of a log header, and whether it is valid. -/
def logS (e : Int) (s : List UInt8) : List Int × Bool :=
  if 16 < wd s 0 then ([], false) else if okK e s (wd s 0).toNat then (logK s (wd s 0).toNat, decide (zeroFrom s (2 * (wd s 0).toNat + 2))) else ([], false)

theorem wd_nat (s : List UInt8) (i : Nat) : ∃ n : Nat, wd s i = n ∧ n ≤ 65535 := by
  have h := word_range (s.getD (2 * i) 0) (s.getD (2 * i + 1) 0)
  exact ⟨(wd s i).toNat, by unfold wd at *; omega, by unfold wd at *; omega⟩

theorem put2_wd {s : List UInt8} {j : Nat} (h : 2 * j + 2 ≤ s.length) : put2 (wd s j) = [s[2 * j]'(by omega), s[2 * j + 1]'(by omega)] := by
  unfold wd put2 word
  rw [getD_at (by omega), getD_at (by omega)]
  have h1 := (s[2 * j]'(by omega)).toNat_lt
  have h2 := (s[2 * j + 1]'(by omega)).toNat_lt
  rw [show ((((s[2 * j]'(by omega)).toNat : Int) + 256 * (s[2 * j + 1]'(by omega)).toNat)).toNat = (s[2 * j]'(by omega)).toNat + 256 * (s[2 * j + 1]'(by omega)).toNat by omega]
  rw [show ((s[2 * j]'(by omega)).toNat + 256 * (s[2 * j + 1]'(by omega)).toNat) % 256 = (s[2 * j]'(by omega)).toNat by omega]
  rw [show ((s[2 * j]'(by omega)).toNat + 256 * (s[2 * j + 1]'(by omega)).toNat) / 256 % 256 = (s[2 * j + 1]'(by omega)).toNat by omega]
  simp
def hdrK (s : List UInt8) (n : Nat) : List UInt8 := put2 (wd s 0) ++ (logK s n).flatMap put2
theorem hdrK_succ (s : List UInt8) (n : Nat) : hdrK s (n + 1) = hdrK s n ++ put2 (wd s (n + 1)) := by unfold hdrK; rw [logK_succ]; simp
theorem hdrK_take {s : List UInt8} : ∀ {n : Nat}, 2 * n + 2 ≤ s.length → hdrK s n = s.take (2 * n + 2)
  | 0, h => by
    unfold hdrK
    rw [put2_wd (by omega)]
    match s, h with
    | a :: b :: s, h => simp [logK]
  | n + 1, h => by
    have e1 : s.take (2 * n + 2 + 1 + 1) = s.take (2 * n + 2 + 1) ++ [s[2 * n + 2 + 1]'(by omega)] := List.take_succ_eq_append_getElem (by omega)
    have e2 : s.take (2 * n + 2 + 1) = s.take (2 * n + 2) ++ [s[2 * n + 2]'(by omega)] := List.take_succ_eq_append_getElem (by omega)
    rw [hdrK_succ, hdrK_take (by omega), put2_wd (by omega), show 2 * (n + 1) + 2 = (2 * n + 2 + 1) + 1 by omega, e1, e2]
    simp only [List.append_assoc, List.cons_append, List.nil_append, show 2 * (n + 1) = 2 * n + 2 by omega]
theorem hdrK_pad {s : List UInt8} {n : Nat} (hs : s.length = 128) (h : n ≤ 16) : s = padS (hdrK s n) ↔ zeroFrom s (2 * n + 2) := by
  rw [hdrK_take (by omega)]
  unfold padS zeroFrom
  rw [show (s.take (2 * n + 2)).length = 2 * n + 2 by rw [List.length_take]; omega]
  have hl : (s.drop (2 * n + 2)).length = 128 - (2 * n + 2) := by rw [List.length_drop, hs]
  constructor
  · intro h b hb
    have h2 := List.take_append_drop (2 * n + 2) s
    have h3 : s.drop (2 * n + 2) = List.replicate (128 - (2 * n + 2)) 0 := by
      exact List.append_cancel_left (h2.trans h)
    rw [h3] at hb
    exact List.eq_of_mem_replicate hb
  · intro h
    have h3 : s.drop (2 * n + 2) = List.replicate (128 - (2 * n + 2)) 0 := List.eq_replicate_iff.2 ⟨hl, h⟩
    rw [← h3, List.take_append_drop]

end Go.Abs

namespace Go.Abs
open Go.Proofs
set_option maxRecDepth 100000
set_option linter.unusedSimpArgs false
set_option linter.unusedVariables false

/-- Is none of the first n sectors of the log bad? -/
def okB (B : List Int) : Nat → Bool
  | 0 => true
  | i + 1 => okB B i && decide ((2 + (i : Int)) ∉ B)
theorem okB_no {B : List Int} : ∀ {n i : Nat}, okB B (i + 1) = false → i < n → okB B n = false
  | 0, i, h, hi => by omega
  | n + 1, i, h, hi => by
    by_cases h1 : i = n
    · subst h1; exact h
    · rw [okB, okB_no h (by omega)]; rfl
def recW (S : List (List UInt8)) (ks : List Int) (n : Nat) : List (Int × List UInt8) := (List.range n).map fun i => (ks.getD i 0, S.getD (2 + i) [])
theorem recW_succ (S : List (List UInt8)) (ks : List Int) (n : Nat) : recW S ks (n + 1) = recW S ks n ++ [(ks.getD n 0, S.getD (2 + n) [])] := by simp [recW, List.range_succ]
theorem recW_length (S : List (List UInt8)) (ks : List Int) (n : Nat) : (recW S ks n).length = n := by simp [recW]
/-- The writes that complete a transaction. -/
def recS (S : List (List UInt8)) (B : List Int) : List (Int × List UInt8) × Int :=
  if VolP S B then if (1 : Int) ∈ B then ([], 21) else
    if (logS (S.length - swapW S) (S.getD 1 [])).2 = true then
      if (logS (S.length - swapW S) (S.getD 1 [])).1.length = 0 then ([], 0) else
        if okB B (logS (S.length - swapW S) (S.getD 1 [])).1.length = true then (recW S (logS (S.length - swapW S) (S.getD 1 [])).1 (logS (S.length - swapW S) (S.getD 1 [])).1.length ++ [(1, padS [])], 0) else ([], 21)
    else ([], 9)
  else ([], 9)
theorem logS_length (e : Int) (s : List UInt8) : (logS e s).1.length ≤ 16 := by
  unfold logS
  obtain ⟨n, hn, _⟩ := wd_nat s 0
  rw [hn]
  split
  · simp
  · split
    · rw [logK_length]; omega
    · simp

end Go.Abs

namespace Go.Abs
open Go.Proofs
set_option maxRecDepth 100000
set_option linter.unusedSimpArgs false
set_option linter.unusedVariables false

theorem eqw_wr (a b : Int × List UInt8) : binV Try.prog .eql 38 (wrV a) (wrV b) = some (.bool (decide (a = b))) ∧ binV Try.prog .neq 38 (wrV a) (wrV b) = some (.bool (!decide (a = b))) := by
  have h := (binV_agg (P := Try.prog) (t := 38) (d := 10000) rfl (by kernel_rfl) (by kernel_rfl) rfl rfl (eqL_wr a.1 b.1 a.2 b.2))
  have e : (decide (a.1 = b.1) && decide (a.2 = b.2)) = decide (a = b) := by
    rw [Bool.eq_iff_iff]
    simp [Prod.ext_iff]
  rw [e] at h
  exact h
def SmallV (S : List (List UInt8)) (B : List Int) : Prop := S.length ≤ 260 ∧ B.length ≤ 60 ∧ ∀ s ∈ S, s.length ≤ 200
instance (S : List (List UInt8)) (B : List Int) : Decidable (SmallV S B) := by unfold SmallV; infer_instance
def FewP (l : List (Int × List UInt8)) : Prop := (∀ w ∈ l, w.2.length ≤ 200) ∧ l.length ≤ 60
instance (l : List (Int × List UInt8)) : Decidable (FewP l) := by unfold FewP; infer_instance
theorem recS_length (S : List (List UInt8)) (B : List Int) : (recS S B).1.length ≤ 17 := by
  unfold recS
  have h := logS_length (S.length - swapW S) (S.getD 1 [])
  generalize logS (S.length - swapW S) (S.getD 1 []) = p at h ⊢
  split
  · split
    · simp
    · split
      · split
        · simp
        · split
          · rw [List.length_append, recW_length, List.length_singleton]; omega
          · simp
      · simp
  · simp
end Go.Abs

namespace Go.Abs
open Go.Proofs
set_option maxRecDepth 100000
set_option linter.unusedSimpArgs false
set_option linter.unusedVariables false

theorem sorted_perm (l : List Int) : (sorted l).Perm l := by rw [sorted_eq]; exact List.mergeSort_perm ..
theorem sorted_le (l : List Int) : (sorted l).Pairwise (· ≤ ·) := by
  rw [sorted_eq]
  have := List.pairwise_mergeSort (le := fun x y : Int => decide (x ≤ y)) (fun a b c h1 h2 => by simp at *; omega) (fun a b => by simp; omega) l
  exact this.imp fun h => by simpa using h
theorem sorted_nodup {l : List Int} (h : l.Nodup) : (sorted l).Nodup := (sorted_perm l).nodup_iff.2 h
theorem sorted_lt {l : List Int} (h : l.Nodup) : (sorted l).Pairwise (· < ·) :=
  ((sorted_le l).and (sorted_nodup h)).imp fun ⟨h1, h2⟩ => by omega
theorem sorted_self : ∀ {l : List Int}, l.Pairwise (· ≤ ·) → sorted l = l
  | [], _ => rfl
  | a :: l, h => by
    rw [List.pairwise_cons] at h
    rw [sorted, sorted_self h.2]
    exact insI_at a l h.1 [] (fun b hb => by cases hb)
theorem foldl_new : ∀ (B ks : List Int), B.Nodup → (∀ b ∈ B, b ∉ ks) → B.foldl (fun ks n => if n ∈ ks then ks else ks ++ [n]) ks = ks ++ B
  | [], ks, _, _ => by simp
  | b :: B, ks, h, hd => by
    rw [List.nodup_cons] at h
    rw [List.foldl_cons, if_neg (hd b (List.mem_cons_self ..)), foldl_new B _ h.2 fun c hc hk => by
      rw [List.mem_append, List.mem_singleton] at hk
      rcases hk with hk | hk
      · exact hd c (List.mem_cons_of_mem _ hc) hk
      · exact h.1 (hk ▸ hc)]
    simp
theorem worn_self {B : List Int} (h : B.Nodup) : wornK B = B := by
  unfold wornK
  rw [foldl_new B [] h (by simp)]
  rfl
theorem mergeL_fst (l : List (Int × List UInt8)) : (mergeL l).map Prod.fst = sorted (keysL l) := by unfold mergeL; rw [List.map_map]; exact List.map_id _
theorem mergeL_asc (l : List (Int × List UInt8)) : ((mergeL l).map Prod.fst).Pairwise (· < ·) := by rw [mergeL_fst]; exact sorted_lt (keysL_nodup l)
theorem lastD_map (f : Int → List UInt8) (k : Int) : ∀ (ks : List Int) (a : List UInt8), ks.Nodup → k ∈ ks → (ks.map fun k => (k, f k)).foldl (fun a w => if w.1 = k then w.2 else a) a = f k
  | [], _, _, h => by cases h
  | c :: ks, a, hn, h => by
    rw [List.nodup_cons] at hn
    rw [List.map_cons, List.foldl_cons]
    by_cases hc : c = k
    · subst hc
      rw [if_pos rfl, foldl_none]
      intro w hw
      obtain ⟨x, hx, rfl⟩ := List.mem_map.1 hw
      exact fun e => hn.1 (e ▸ hx)
    · exact lastD_map f k ks _ hn.2 (by
        rcases List.mem_cons.1 h with h | h
        · exact absurd h.symm hc
        · exact h)
theorem mergeL_idem (l : List (Int × List UInt8)) : mergeL (mergeL l) = mergeL l := by
  have h1 : keysL (mergeL l) = sorted (keysL l) := by
    unfold keysL
    rw [mergeL_fst, worn_self (sorted_nodup (keysL_nodup l))]
    rfl
  have h2 : sorted (sorted (keysL l)) = sorted (keysL l) := sorted_self (sorted_le _)
  show (sorted (keysL (mergeL l))).map (fun k => (k, lastD (mergeL l) k)) = (sorted (keysL l)).map (fun k => (k, lastD l k))
  rw [h1, h2]
  refine List.map_congr_left fun k hk => ?_
  have : lastD (mergeL l) k = lastD l k := lastD_map (lastD l) k _ [] (sorted_nodup (keysL_nodup l)) hk
  rw [this]
theorem wrongI_sub {n : Int} {l : List (Int × List UInt8)} (h : ∀ w ∈ l, 18 ≤ w.1 ∧ w.1 < n ∧ w.2.length ≤ 128) : wrongI n l = 0 := by
  induction l with
  | nil => rfl
  | cons w l ih =>
    have h1 := h w (List.mem_cons_self ..)
    rw [wrongI, if_pos ⟨h1.1, h1.2.1⟩, if_neg (by omega)]
    exact ih fun w hw => h w (List.mem_cons_of_mem _ hw)
theorem planS_ok {S : List (List UInt8)} {B : List Int} {l : List (Int × List UInt8)} (h : (planS S B l).2 = 0) :
    VolP S B ∧ CleanP S B ∧ wrongI (S.length - swapW S) l = 0 ∧ (mergeL l).length ≤ 16 ∧ planS S B l = (if (mergeL l).length = 0 then ([], 0) else (planL (mergeL l), 0)) := by
  unfold planS at h ⊢
  by_cases hv : VolP S B
  case neg => rw [if_neg hv] at h; cases h
  rw [if_pos hv] at h ⊢
  by_cases hc : CleanP S B
  case neg => rw [if_neg hc] at h; cases h
  rw [if_pos hc] at h ⊢
  by_cases hw : wrongI (S.length - swapW S) l = 0
  case neg => rw [if_neg hw] at h; exact absurd h hw
  rw [if_pos hw] at h ⊢
  by_cases h16 : 16 < (mergeL l).length
  · rw [if_pos h16] at h; cases h
  rw [if_neg h16]
  exact ⟨hv, hc, hw, by omega, rfl⟩
theorem planS_merge {S : List (List UInt8)} {B : List Int} {l : List (Int × List UInt8)} (h : (planS S B l).2 = 0) : planS S B (mergeL l) = planS S B l := by
  obtain ⟨hv, hc, hw, h16, e⟩ := planS_ok h
  rw [e]
  have hw2 : wrongI (S.length - swapW S) (mergeL l) = 0 := wrongI_sub fun w hw' => wrongI_ok hw w (mergeL_sub hw')
  unfold planS
  rw [if_pos hv, if_pos hc, if_pos hw2, mergeL_idem, if_neg (by omega)]

@[simp] theorem hasRoL_wr (l : List (Int × List UInt8)) : hasRoL (l.map wrV) = false := by
  rw [hasRoL_any, List.any_eq_false]
  intro x hx
  obtain ⟨w, _, rfl⟩ := List.mem_map.1 hx
  simp

def foundK (l : List (Int × List UInt8)) (k : Int) : Bool := l.any fun w => w.1 == k
theorem foundK_take {l : List (Int × List UInt8)} {i : Nat} (h : i < l.length) (k : Int) : foundK (l.take (i + 1)) k = (foundK (l.take i) k || (l[i].1 == k)) := by
  unfold foundK
  rw [List.take_succ_eq_append_getElem h, List.any_append]
  simp
theorem foundK_iff {l : List (Int × List UInt8)} {k : Int} : foundK l k = true ↔ ∃ w ∈ l, w.1 = k := by simp [foundK]
theorem planS_length (S : List (List UInt8)) (B : List Int) (l : List (Int × List UInt8)) : (planS S B l).1.length ≤ 34 := by
  have hp : ∀ m : List (Int × List UInt8), (planL m).length = 2 * m.length + 2 := fun m => by
    unfold planL
    rw [List.length_append, List.length_cons, List.length_append, List.length_map]
    simp [logL]
    omega
  have := hp (mergeL l)
  unfold planS
  generalize mergeL l = m at this ⊢
  generalize wrongI (S.length - swapW S) l = e
  split
  · split
    · split
      · split
        · simp
        · split
          · simp
          · show (planL m).length ≤ 34
            omega
      · simp
    · simp
  · simp
theorem writes_of64 {x : V} (h : ArgT Try.prog 57 x) : ∃ l : List (Int × List UInt8), x = .sl (l.map wrV) ∧ l.length ≤ maxLen ∧ In64 (l.map Prod.fst) := by
  obtain ⟨n, h1, h2⟩ := h
  rw [show aggT Try.prog 57 = some false by kernel_rfl] at h2
  rw [cells_one (Option.some.inj h2).symm] at h1
  obtain ⟨m, es, rfl, h3, h4, h5⟩ := hasT_slice Try.underlying57 (cells_ne (n := 2) (by kernel_rfl) (by decide)) h1
  cases h3
  obtain ⟨l, rfl, hp⟩ := map_of (p := fun w => -9223372036854775808 ≤ w.1 ∧ w.1 ≤ 9223372036854775807) (f := wrV) fun x hx => by
    obtain ⟨h6, h7⟩ := h5 x hx
    rw [show aggT Try.prog 38 = some true by kernel_rfl] at h6
    obtain ⟨cs, rfl⟩ := cells_some (Option.some.inj h6).symm
    obtain ⟨w, h8, h9⟩ := wr_cells h7
    exact ⟨w, h8, h9⟩
  refine ⟨l, rfl, by simpa using h4, fun x hx => ?_⟩
  obtain ⟨w, hw, rfl⟩ := List.mem_map.1 hx
  exact hp w hw

end Go.Abs

namespace Go.Abs
open Go.Proofs
set_option maxRecDepth 100000
set_option linter.unusedSimpArgs false

abbrev OkAll (n : Nat) (B : List Int) (l : List (Int × List UInt8)) : Prop := ∀ w ∈ l, faultI n B w = 0
abbrev puts (S : List (List UInt8)) (l : List (Int × List UInt8)) : List (List UInt8) := l.foldl putS S

theorem puts_length : ∀ (l : List (Int × List UInt8)) (S : List (List UInt8)), (puts S l).length = S.length
  | [], S => rfl
  | w :: l, S => by show (puts (putS S w) l).length = _; rw [puts_length l, putS_length]

theorem applyS_fuse (B : List Int) : ∀ (l : List (Int × List UInt8)) (S : List (List UInt8)) (i k : Nat), OkAll S.length B l → i ≤ k → applyS B k S i l = (puts S (l.take (k - i)), min k (i + l.length), 0)
  | [], S, i, k, _, h => by simp [applyS]; omega
  | w :: l, S, i, k, ho, h => by
    rw [applyS]
    by_cases hk : i = k
    · subst hk
      simp
    · rw [if_neg (by omega), if_pos (ho w (List.mem_cons_self ..)), applyS_fuse B l (putS S w) (i + 1) k (by rw [putS_length]; exact fun w hw => ho w (List.mem_cons_of_mem _ hw)) (by omega)]
      have : k - i = (k - (i + 1)) + 1 := by omega
      rw [this, List.take_succ_cons, List.length_cons, show i + 1 + l.length = i + (l.length + 1) by omega]
      rfl
theorem applyS_all (B : List Int) : ∀ (l : List (Int × List UInt8)) (S : List (List UInt8)) (i : Nat), OkAll S.length B l → applyS B (-1) S i l = (puts S l, i + l.length, 0)
  | [], S, i, _ => rfl
  | w :: l, S, i, ho => by
    rw [applyS, if_neg (by omega), if_pos (ho w (List.mem_cons_self ..)), applyS_all B l (putS S w) (i + 1) (by rw [putS_length]; exact fun w hw => ho w (List.mem_cons_of_mem _ hw))]
    rw [List.length_cons, show i + 1 + l.length = i + (l.length + 1) by omega]
    rfl
theorem applyS_err (B : List Int) : ∀ (l : List (Int × List UInt8)) (S : List (List UInt8)) (i : Nat), ¬ OkAll S.length B l → (applyS B (-1) S i l).2.2 ≠ 0 ∧ (applyS B (-1) S i l).2.1 < i + l.length
  | [], S, i, ho => absurd (fun w hw => by simp at hw) ho
  | w :: l, S, i, ho => by
    rw [applyS, if_neg (by omega)]
    by_cases hw : faultI S.length B w = 0
    · rw [if_pos hw]
      have := applyS_err B l (putS S w) (i + 1) (fun h => ho fun v hv => by
        rw [putS_length] at h
        rcases List.mem_cons.1 hv with rfl | hv
        · exact hw
        · exact h v hv)
      simp only [List.length_cons]
      exact ⟨this.1, by omega⟩
    · rw [if_neg hw]
      exact ⟨hw, by simp⟩
theorem RightP_puts {B : List Int} : ∀ (l : List (Int × List UInt8)) (S : List (List UInt8)), RightP S B → OkAll S.length B l → RightP (puts S l) B
  | [], S, h, _ => h
  | w :: l, S, h, ho => RightP_puts l (putS S w) (RightP_put h (faultI_zero.1 (ho w (List.mem_cons_self ..))).2.1) (by rw [putS_length]; exact fun v hv => ho v (List.mem_cons_of_mem _ hv))
theorem puts_other {B : List Int} : ∀ (l : List (Int × List UInt8)) (S : List (List UInt8)), OkAll S.length B l → ∀ j : Nat, S[j]? ≠ (puts S l)[j]? → ∃ w ∈ l, w.1 = j
  | [], S, _, j, h => absurd rfl h
  | w :: l, S, ho, j, h => by
    by_cases hw : w.1 = j
    · exact ⟨w, List.mem_cons_self .., hw⟩
    · have h0 := (faultI_zero.1 (ho w (List.mem_cons_self ..))).1.1
      have e : (putS S w)[j]? = S[j]? := by
        unfold putS
        rw [List.getElem?_set_ne (by omega)]
      obtain ⟨v, hv, h2⟩ := puts_other l (putS S w) (by rw [putS_length]; exact fun v hv => ho v (List.mem_cons_of_mem _ hv)) j (by rw [e]; exact h)
      exact ⟨v, List.mem_cons_of_mem _ hv, h2⟩
theorem diffL_mem {S T : List (List UInt8)} {n : Nat} {x : Int} (h : x ∈ diffL S T n) : ∃ j : Nat, x = j ∧ S[j]? ≠ T[j]? := by
  unfold diffL at h
  obtain ⟨j, h1, rfl⟩ := List.mem_map.1 h
  rw [List.mem_filter] at h1
  exact ⟨j, rfl, by simpa using h1.2⟩

theorem is_same {C : Ctx} {d : Bool} {env : Env} {H : Heap} {N : Env → Heap → Prop} {dst : Option Nat} {op : Op} {t : Nat} {g : Option (Option Nat × Bool)} {r : List Sop} {v : V} (hw : want1 env g = .yes) (he : ev1 C.P (callW C d) env H op t = some (v, H)) (h : Op1 C d r (env.put dst v) H N) : Op1 C d (⟨dst, op, t, g⟩ :: r) env H N := op_yes hw he h

end Go.Abs

namespace Go.Abs
open Go.Proofs
set_option maxRecDepth 100000
set_option linter.unusedSimpArgs false
set_option linter.unusedVariables false

theorem padS_pad {s : List UInt8} (h : s.length ≤ 128) : padS (padS s) = padS s := by
  have := padS_length h
  show padS s ++ List.replicate (128 - (padS s).length) 0 = padS s
  rw [this]
  simp
theorem puts_low {i : Nat} : ∀ (l : List (Int × List UInt8)) (T : List (List UInt8)), (∀ w ∈ l, 0 ≤ w.1 ∧ w.1 ≠ i) → (puts T l).getD i [] = T.getD i []
  | [], _, _ => rfl
  | w :: l, T, h => by
    have h1 := h w (List.mem_cons_self ..)
    have := puts_low l (putS T w) fun v hv => h v (List.mem_cons_of_mem _ hv)
    rw [show puts T (w :: l) = puts (putS T w) l from rfl, this]
    exact getD_putS (by omega)
theorem getD_putS_self {T : List (List UInt8)} {w : Int × List UInt8} (h0 : 0 ≤ w.1) (h1 : w.1 < T.length) : (putS T w).getD w.1.toNat [] = padS w.2 := by
  unfold putS
  rw [List.getD_eq_getElem?_getD, List.getElem?_set_self (by omega)]
  rfl
theorem puts_mem {i : Nat} {w : Int × List UInt8} : ∀ (l : List (Int × List UInt8)) (T : List (List UInt8)), (∀ v ∈ l, 0 ≤ v.1 ∧ v.1 < T.length) → (l.map Prod.fst).Nodup → w ∈ l → w.1 = i → (puts T l).getD i [] = padS w.2
  | [], _, _, _, hw, _ => by cases hw
  | v :: l, T, h, hn, hw, hi => by
    rw [List.map_cons, List.nodup_cons] at hn
    have hv := h v (List.mem_cons_self ..)
    rw [show puts T (v :: l) = puts (putS T v) l from rfl]
    rcases List.mem_cons.1 hw with rfl | hw
    · rw [puts_low l _ fun u hu => ⟨(h u (List.mem_cons_of_mem _ hu)).1, fun e => hn.1 (List.mem_map.2 ⟨u, hu, by omega⟩)⟩]
      rw [show i = w.1.toNat by omega]
      exact getD_putS_self hv.1 hv.2
    · exact puts_mem l _ (fun u hu => by rw [putS_length]; exact h u (List.mem_cons_of_mem _ hu)) hn.2 hw hi

/-- A drive whose log leads to the end of a transaction. -/
def Rdy (S : List (List UInt8)) (m : List (Int × List UInt8)) (T : List (List UInt8)) : Prop :=
  T.length = S.length ∧ RightP T [] ∧ T.getD 0 [] = S.getD 0 [] ∧ T.getD 1 [] = padS (headL m) ∧ (∀ i (h : i < m.length), T.getD (2 + i) [] = padS (m[i]).2) ∧
    ∀ i : Nat, 18 ≤ i → (∀ w ∈ m, w.1 ≠ i) → T.getD i [] = S.getD i []
/-- A drive with a clean log. -/
def Don (S W T : List (List UInt8)) : Prop :=
  T.length = S.length ∧ RightP T [] ∧ T.getD 0 [] = S.getD 0 [] ∧ T.getD 1 [] = padS [] ∧ ∀ i : Nat, 18 ≤ i → T.getD i [] = W.getD i []

/-- What a transaction's writes are. -/
structure Txn (S : List (List UInt8)) (m : List (Int × List UInt8)) : Prop where
  vol : VolP S []
  clean : S.getD 1 [] = padS []
  low : 1 ≤ m.length
  high : m.length ≤ 16
  keys : ∀ w ∈ m, 18 ≤ w.1 ∧ w.1 < S.length - swapW S ∧ w.2.length ≤ 128
  asc : (m.map Prod.fst).Pairwise (· < ·)

section
variable {S T : List (List UInt8)} {m : List (Int × List UInt8)}
theorem vol_same {S T : List (List UInt8)} (hv : VolP S []) (h1 : T.length = S.length) (h2 : RightP T []) (h3 : T.getD 0 [] = S.getD 0 []) : VolP T [] ∧ swapW T = swapW S := by
  have hs : swapW T = swapW S := by unfold swapW; rw [h3]
  exact ⟨⟨h2, by rw [h1]; exact hv.2.1, by simp, by rw [hs, h1]; exact hv.2.2.2.1, by rw [h3, hs, h1]; exact hv.2.2.2.2⟩, hs⟩
theorem Txn.nodup (h : Txn S m) : (m.map Prod.fst).Nodup := h.asc.imp fun h => by omega
theorem Txn.D_nodup (h : Txn S m) : ((m.map padW).map Prod.fst).Nodup := by
  rw [List.map_map]
  exact h.nodup
theorem headL_length (h : m.length ≤ 16) : (headL m).length ≤ 128 := by unfold headL; rw [List.length_append, put2_length, flat_len]; omega
theorem Txn.okD (h : Txn S m) (n : Nat) (hn : n = S.length) : OkAll n [] (m.map padW) := fun w hw => by
  obtain ⟨v, hv, rfl⟩ := List.mem_map.1 hw
  have := h.keys v hv
  have hb := vol_bounds h.vol
  exact faultI_zero.2 ⟨⟨by show 0 ≤ v.1; omega, by show v.1 < n; omega⟩, by show (padS v.2).length ≤ 128; rw [padS_length this.2.2]; omega, by simp⟩
theorem Txn.okV (h : Txn S m) (n : Nat) (hn : n = S.length) : OkAll n [] (logL m) := fun w hw => by
  unfold logL at hw
  obtain ⟨i, hi, rfl⟩ := List.mem_map.1 hw
  rw [List.mem_range] at hi
  have hb := vol_bounds h.vol
  have h16 := h.high
  have := h.keys _ (List.getElem_mem hi)
  refine faultI_zero.2 ⟨⟨by show (0 : Int) ≤ 2 + (i : Int); omega, by show (2 + (i : Int)) < n; omega⟩, ?_, by simp⟩
  show (padS (m.getD i (0, [])).2).length ≤ 128
  rw [getD_at hi, padS_length this.2.2]
  omega
theorem Txn.okH (h : Txn S m) (n : Nat) (hn : n = S.length) {s : List UInt8} (hs : s.length ≤ 128) : faultI n [] (1, padS s) = 0 := by
  have hb := vol_bounds h.vol
  exact faultI_zero.2 ⟨⟨by show (0 : Int) ≤ 1; omega, by show (1 : Int) < n; omega⟩, by show (padS s).length ≤ 128; rw [padS_length hs]; omega, by simp⟩
theorem Txn.okP (h : Txn S m) (n : Nat) (hn : n = S.length) : OkAll n [] (planL m) := fun w hw => by
  unfold planL at hw
  rcases List.mem_append.1 hw with hw | hw
  · exact h.okV n hn w hw
  · rcases List.mem_cons.1 hw with rfl | hw
    · exact h.okH n hn (headL_length h.high)
    · rcases List.mem_append.1 hw with hw | hw
      · exact h.okD n hn w hw
      · rw [List.mem_singleton] at hw
        subst hw
        exact h.okH n hn (by simp)
theorem Txn.okR (h : Txn S m) (n : Nat) (hn : n = S.length) : OkAll n [] (m.map padW ++ [(1, padS [])]) := fun w hw => h.okP n hn w (by
  unfold planL
  exact List.mem_append_right _ (List.mem_cons_of_mem _ hw))
theorem ok_rng {n : Nat} {l : List (Int × List UInt8)} (h : OkAll n [] l) : ∀ w ∈ l, 0 ≤ w.1 ∧ w.1 < n := fun w hw => (faultI_zero.1 (h w hw)).1
theorem Txn.d_low (h : Txn S m) {j i : Nat} (hi : i < 18) : ∀ w ∈ (m.map padW).take j, 0 ≤ w.1 ∧ w.1 ≠ i := fun w hw => by
  obtain ⟨v, hv, rfl⟩ := List.mem_map.1 (List.mem_of_mem_take hw)
  have := h.keys v hv
  exact ⟨by show 0 ≤ v.1; omega, by show v.1 ≠ i; omega⟩
theorem Txn.d_not (h : Txn S m) {j i : Nat} (hi : ∀ w ∈ m, w.1 ≠ i) : ∀ w ∈ (m.map padW).take j, 0 ≤ w.1 ∧ w.1 ≠ i := fun w hw => by
  obtain ⟨v, hv, rfl⟩ := List.mem_map.1 (List.mem_of_mem_take hw)
  have := h.keys v hv
  exact ⟨by show 0 ≤ v.1; omega, hi v hv⟩

/-- The log, written. -/
theorem Txn.rdy0 (h : Txn S m) : Rdy S m (putS (puts S (logL m)) (1, padS (headL m))) := by
  have hb := vol_bounds h.vol
  have h16 := h.high
  have hl : (puts S (logL m)).length = S.length := puts_length ..
  have hlow : ∀ i : Nat, (i < 2 ∨ 18 ≤ i) → ∀ w ∈ logL m, 0 ≤ w.1 ∧ w.1 ≠ i := fun i hi w hw => by
    unfold logL at hw
    obtain ⟨j, hj, rfl⟩ := List.mem_map.1 hw
    rw [List.mem_range] at hj
    exact ⟨by show (0 : Int) ≤ 2 + (j : Int); omega, by show (2 + (j : Int)) ≠ i; omega⟩
  refine ⟨by rw [putS_length, hl], RightP_put (RightP_puts _ _ h.vol.1 (h.okV _ rfl)) (by rw [padS_length (headL_length h16)]; omega), ?_, ?_, fun i hi => ?_, fun i hi hni => ?_⟩
  · rw [getD_putS (by show (0 : Nat) ≠ (1 : Int).toNat; decide)]
    exact puts_low _ _ (hlow 0 (by omega))
  · have := @getD_putS_self (puts S (logL m)) (1, padS (headL m)) (by show (0 : Int) ≤ 1; omega) (by rw [hl]; show (1 : Int) < _; omega)
    rw [padS_pad (headL_length h16)] at this
    exact this
  · rw [getD_putS (by show 2 + i ≠ (1 : Int).toNat; have : (1 : Int).toNat = 1 := rfl; omega)]
    have hmem : ((2 + (i : Int)), padS (m[i]).2) ∈ logL m := by
      unfold logL
      exact List.mem_map.2 ⟨i, List.mem_range.2 hi, by rw [getD_at hi]⟩
    have hnd : ((logL m).map Prod.fst).Nodup := by
      unfold logL
      rw [List.map_map]
      refine List.Pairwise.imp_of_mem (R := (· ≠ ·)) (S := (· ≠ ·)) (fun _ _ h => h) ?_
      rw [List.pairwise_map]
      exact List.nodup_range.imp fun h => by simp; omega
    rw [puts_mem (i := 2 + i) (logL m) S (ok_rng (h.okV _ rfl)) hnd hmem (by show (2 + (i : Int)) = _; omega)]
    exact padS_pad (h.keys _ (List.getElem_mem hi)).2.2
  · rw [getD_putS (by show i ≠ (1 : Int).toNat; have : (1 : Int).toNat = 1 := rfl; omega)]
    exact puts_low _ _ (hlow i (by omega))

theorem Rdy.step (h : Txn S m) (hr : Rdy S m T) (j : Nat) : Rdy S m (puts T ((m.map padW).take j)) := by
  obtain ⟨h1, h2, h3, h4, h5, h6⟩ := hr
  have h16 := h.high
  exact ⟨by rw [puts_length, h1], RightP_puts _ _ h2 fun w hw => h.okD _ h1 w (List.mem_of_mem_take hw), by rw [puts_low _ _ (h.d_low (by omega)), h3], by rw [puts_low _ _ (h.d_low (by omega)), h4],
    fun i hi => by rw [puts_low _ _ (h.d_low (by omega)), h5 i hi], fun i hi hn => by rw [puts_low _ _ (h.d_not hn), h6 i hi hn]⟩

/-- All sectors home, and the log clean. -/
theorem Rdy.fin (h : Txn S m) (hr : Rdy S m T) : Don S (puts S (m.map padW)) (puts T (m.map padW ++ [(1, padS [])])) := by
  have hs := hr.step h m.length
  rw [show (m.map padW).take m.length = m.map padW by rw [List.take_of_length_le (by simp)]] at hs
  have e : puts T (m.map padW ++ [(1, padS [])]) = putS (puts T (m.map padW)) (1, padS []) := by
    show List.foldl putS T _ = _
    rw [List.foldl_append]
    rfl
  have hb := vol_bounds h.vol
  have hgd : ∀ U : List (List UInt8), U.length = S.length → ∀ i : Nat, 18 ≤ i → ∀ w ∈ m, w.1 = i → (puts U (m.map padW)).getD i [] = padS w.2 := fun U hU i hi w hw hwi => by
    have := puts_mem (i := i) (w := padW w) (m.map padW) U (ok_rng (h.okD _ hU)) h.D_nodup (List.mem_map.2 ⟨w, hw, rfl⟩) hwi
    rw [this]
    exact padS_pad (h.keys w hw).2.2
  have hTl := hr.1
  have hr6 := hr.2.2.2.2.2
  obtain ⟨h1, h2, h3, h4, h5, h6⟩ := hs
  rw [e]
  refine ⟨by rw [putS_length, h1], RightP_put h2 (by rw [padS_length (by simp)]; omega), by rw [getD_putS (by show (0 : Nat) ≠ (1 : Int).toNat; decide), h3], ?_, fun i hi => ?_⟩
  · have := @getD_putS_self (puts T (m.map padW)) (1, padS []) (by show (0 : Int) ≤ 1; omega) (by rw [h1]; show (1 : Int) < _; omega)
    rw [padS_pad (by simp)] at this
    exact this
  · rw [getD_putS (by show i ≠ (1 : Int).toNat; have : (1 : Int).toNat = 1 := rfl; omega)]
    by_cases hx : ∃ w ∈ m, w.1 = (i : Int)
    · obtain ⟨w, hw, hwi⟩ := hx
      rw [hgd T hTl i hi w hw hwi, hgd S rfl i hi w hw hwi]
    · have hn : ∀ w ∈ m, w.1 ≠ (i : Int) := fun w hw e => hx ⟨w, hw, e⟩
      rw [h6 i hi hn, puts_low (i := i) (m.map padW) S fun w hw => by
        obtain ⟨v, hv, rfl⟩ := List.mem_map.1 hw
        have := h.keys v hv
        exact ⟨by show 0 ≤ v.1; omega, hn v hv⟩]

theorem logS_zero (e : Int) : logS e (padS []) = ([], true) := by
  have h0 : wd (padS []) 0 = 0 := by kernel_rfl
  unfold logS
  rw [h0, if_neg (by omega)]
  have hz : zeroFrom (padS []) 2 := by
    intro b hb
    have : padS [] = List.replicate 128 0 := rfl
    rw [this] at hb
    exact List.eq_of_mem_replicate (List.mem_of_mem_drop hb)
  show (if okK e (padS []) 0 = true then (logK (padS []) 0, decide (zeroFrom (padS []) 2)) else ([], false)) = _
  rw [if_pos (show okK e (padS []) 0 = true from rfl), decide_eq_true hz]
  rfl
theorem Don.rec (h : VolP S []) {W : List (List UInt8)} (hd : Don S W T) : recS T [] = ([], 0) ∧ CleanP T [] := by
  obtain ⟨h1, h2, h3, h4, h5⟩ := hd
  have hv := vol_same h h1 h2 h3
  refine ⟨?_, hv.1, by simp, h4⟩
  unfold recS
  rw [if_pos hv.1, if_neg (by simp), h4, logS_zero]
  rfl

theorem wd_cons (x y : UInt8) (t : List UInt8) (j : Nat) : wd (x :: y :: t) (j + 1) = wd t j := by
  unfold wd
  rw [show 2 * (j + 1) = 2 * j + 1 + 1 by omega, show 2 * j + 1 + 1 + 1 = (2 * j + 1) + 1 + 1 by omega]
  rfl
theorem wd_put2 {n : Int} (t : List UInt8) (h : 0 ≤ n) (h2 : n ≤ 65535) : wd (put2 n ++ t) 0 = n := word_put2 h h2
theorem wd_flat : ∀ (m : List (Int × List UInt8)) (t : List UInt8) (i : Nat) (hi : i < m.length), (∀ w ∈ m, 0 ≤ w.1 ∧ w.1 ≤ 65535) → wd ((m.flatMap fun w => put2 w.1) ++ t) i = (m[i]).1
  | [], _, _, hi, _ => by cases hi
  | w :: m, t, 0, _, h => by
    rw [List.flatMap_cons, List.append_assoc]
    exact wd_put2 _ (h w (List.mem_cons_self ..)).1 (h w (List.mem_cons_self ..)).2
  | w :: m, t, i + 1, hi, h => by
    rw [List.flatMap_cons, List.append_assoc]
    show wd (_ :: _ :: ((m.flatMap fun w => put2 w.1) ++ t)) (i + 1) = _
    rw [wd_cons, wd_flat m t i (by simpa using hi) fun v hv => h v (List.mem_cons_of_mem _ hv)]
    rfl
theorem logS_head (h : Txn S m) : logS (S.length - swapW S) (padS (headL m)) = (m.map Prod.fst, true) := by
  have hb := vol_bounds h.vol
  have h16 := h.high
  have hk : ∀ w ∈ m, 0 ≤ w.1 ∧ w.1 ≤ 65535 := fun w hw => by have := h.keys w hw; omega
  have h0 : wd (padS (headL m)) 0 = m.length := by
    unfold padS headL
    rw [List.append_assoc]
    exact wd_put2 _ (by omega) (by omega)
  have hi : ∀ i (hi : i < m.length), wd (padS (headL m)) (i + 1) = (m[i]).1 := fun i hi => by
    unfold padS
    rw [show headL m = put2 m.length ++ m.flatMap (fun w => put2 w.1) from rfl, List.append_assoc]
    show wd (_ :: _ :: _) (i + 1) = _
    rw [wd_cons]
    exact wd_flat m _ i hi hk
  have hok : ∀ n, n ≤ m.length → okK (S.length - swapW S) (padS (headL m)) n = true := by
    intro n
    induction n with
    | zero => intro _; rfl
    | succ n ih =>
      intro hn
      rw [okK, ih (by omega), hi n (by omega)]
      have := h.keys _ (List.getElem_mem (show n < m.length by omega))
      simp only [Bool.true_and, decide_eq_true_eq]
      refine ⟨?_, this.1, this.2.1⟩
      unfold lastK
      by_cases h0 : n = 0
      · rw [if_pos h0]; omega
      · rw [if_neg h0]
        obtain ⟨k, rfl⟩ : ∃ k, n = k + 1 := ⟨n - 1, by omega⟩
        rw [hi k (by omega)]
        have := List.pairwise_iff_getElem.1 h.asc k (k + 1) (by simp; omega) (by simp; omega) (by omega)
        simpa using this
  have hlk : logK (padS (headL m)) m.length = m.map Prod.fst := by
    unfold logK
    apply List.ext_getElem
    · simp
    · intro i h1 h2
      simp at h1 h2
      simp [hi i h1]
  have hz : zeroFrom (padS (headL m)) (2 * m.length + 2) := by
    intro b hb
    unfold padS at hb
    have hl : (headL m).length = 2 * m.length + 2 := by unfold headL; rw [List.length_append, put2_length, flat_len]; omega
    rw [List.drop_append, List.drop_eq_nil_of_le (by omega), List.nil_append] at hb
    exact List.eq_of_mem_replicate (List.mem_of_mem_drop hb)
  unfold logS
  rw [h0, if_neg (by omega)]
  show (if okK _ _ m.length = true then (logK _ m.length, decide (zeroFrom _ (2 * m.length + 2))) else ([], false)) = _
  rw [if_pos (hok _ (Nat.le_refl _)), hlk, decide_eq_true hz]
theorem okB_nil (n : Nat) : okB [] n = true := by
  induction n with
  | zero => rfl
  | succ n ih => rw [okB, ih]; simp
theorem Rdy.rec (h : Txn S m) (hr : Rdy S m T) : recS T [] = (m.map padW ++ [(1, padS [])], 0) := by
  obtain ⟨h1, h2, h3, h4, h5, h6⟩ := hr
  have hv := vol_same h.vol h1 h2 h3
  have hl := h.low
  unfold recS
  rw [if_pos hv.1, if_neg (by simp), h4, hv.2, h1, logS_head h]
  simp only [if_true]
  rw [if_neg (by rw [List.length_map]; omega), if_pos (okB_nil _)]
  congr 2
  apply List.ext_getElem
  · rw [recW_length]; simp
  · intro i k1 k2
    rw [recW_length, List.length_map] at k1
    have := h5 i k1
    unfold recW
    simp [k1, padW]
    simpa using this

theorem planL_len : (planL m).length = 2 * m.length + 2 := by
  unfold planL
  rw [List.length_append, List.length_cons, List.length_append, List.length_map]
  simp [logL]
  omega
theorem logL_len : (logL m).length = m.length := by simp [logL]
theorem take_low {k : Nat} (h : k ≤ m.length) : (planL m).take k = (logL m).take k := by
  unfold planL
  rw [List.take_append_of_le_length (by rw [logL_len]; exact h)]
theorem take_mid {j : Nat} (h : j ≤ m.length) : puts S ((planL m).take (m.length + 1 + j)) = puts (putS (puts S (logL m)) (1, padS (headL m))) ((m.map padW).take j) := by
  have e : (planL m).take (m.length + 1 + j) = logL m ++ ((1, padS (headL m)) :: (m.map padW).take j) := by
    unfold planL
    rw [List.take_append, List.take_of_length_le (by rw [logL_len]; omega), logL_len, show m.length + 1 + j - m.length = j + 1 by omega, List.take_succ_cons, List.take_append_of_le_length (by rw [List.length_map]; exact h)]
  rw [e]
  show List.foldl putS S _ = _
  rw [List.foldl_append]
  rfl
theorem puts_all : puts S (planL m) = puts (putS (puts S (logL m)) (1, padS (headL m))) (m.map padW ++ [(1, padS [])]) := by
  unfold planL
  show List.foldl putS S _ = _
  rw [List.foldl_append]
  rfl
theorem slice_D : ((planL m).take (2 * m.length + 1)).drop (m.length + 1) = m.map padW := by
  unfold planL
  rw [List.take_append, List.take_of_length_le (by rw [logL_len]; omega), logL_len, show 2 * m.length + 1 - m.length = m.length + 1 by omega, List.take_succ_cons, List.take_append_of_le_length (by rw [List.length_map]; omega), List.take_of_length_le (by rw [List.length_map]; omega)]
  rw [List.drop_append, List.drop_eq_nil_of_le (by rw [logL_len]; omega), logL_len, show m.length + 1 - m.length = 1 by omega]
  rfl
theorem Txn.beg (h : Txn S m) {k : Nat} (hk : k ≤ m.length) : Don S S (puts S ((planL m).take k)) := by
  rw [take_low hk]
  have h16 := h.high
  have hlow : ∀ i : Nat, (i < 2 ∨ 18 ≤ i) → ∀ w ∈ (logL m).take k, 0 ≤ w.1 ∧ w.1 ≠ i := fun i hi w hw => by
    have hw := List.mem_of_mem_take hw
    unfold logL at hw
    obtain ⟨j, hj, rfl⟩ := List.mem_map.1 hw
    rw [List.mem_range] at hj
    exact ⟨by show (0 : Int) ≤ 2 + (j : Int); omega, by show (2 + (j : Int)) ≠ i; omega⟩
  exact ⟨puts_length .., RightP_puts _ _ h.vol.1 fun w hw => h.okV _ rfl w (List.mem_of_mem_take hw), puts_low _ _ (hlow 0 (by omega)), by rw [puts_low _ _ (hlow 1 (by omega)), h.clean], fun i hi => puts_low _ _ (hlow i (by omega))⟩
theorem Txn.mid (h : Txn S m) {j : Nat} (hj : j ≤ m.length) : Rdy S m (puts S ((planL m).take (m.length + 1 + j))) := by
  rw [take_mid hj]
  exact h.rdy0.step h j
theorem Txn.all (h : Txn S m) : Don S (puts S (m.map padW)) (puts S (planL m)) := by
  rw [puts_all]
  exact h.rdy0.fin h
/-- What is outside the log is told by what was wanted. -/
theorem Don.same {W : List (List UInt8)} (h : Txn S m) (hd : Don S W T) (hW : W = S ∨ W = puts S (m.map padW)) : ∀ i : Nat, (i < 2 ∨ 17 < i) → T.getD i [] = W.getD i [] := fun i hi => by
  obtain ⟨h1, h2, h3, h4, h5⟩ := hd
  by_cases hi2 : 18 ≤ i
  · exact h5 i hi2
  have hW2 : ∀ i : Nat, i < 18 → W.getD i [] = S.getD i [] := fun i hi => by
    rcases hW with rfl | rfl
    · rfl
    · have := h.d_low (j := m.length) hi
      rw [List.take_of_length_le (by simp)] at this
      exact puts_low _ _ this
  rw [hW2 i (by omega)]
  have : i = 0 ∨ i = 1 := by omega
  rcases this with rfl | rfl
  · exact h3
  · rw [h4, h.clean]
end
theorem plan_txn {S : List (List UInt8)} {l : List (Int × List UInt8)} (h : (planS S [] l).2 = 0) (h1 : (planS S [] l).1.length ≠ 0) : Txn S (mergeL l) ∧ planS S [] l = (planL (mergeL l), 0) := by
  obtain ⟨hv, hc, hw, h16, e⟩ := planS_ok h
  have h0 : (mergeL l).length ≠ 0 := fun h0 => by rw [e, if_pos h0] at h1; exact h1 rfl
  rw [if_neg h0] at e
  exact ⟨⟨hv, hc.2.2, by omega, h16, fun w hw' => wrongI_ok hw w (mergeL_sub hw'), mergeL_asc l⟩, e⟩
end Go.Abs

namespace Go.Abs
open Go.Proofs
set_option maxRecDepth 100000
set_option linter.unusedSimpArgs false
set_option linter.unusedVariables false

def Small40 (S : List (List UInt8)) (B : List Int) : Prop := (∀ i ∈ List.range S.length, i < 65 → (S.getD i []).length ≤ 128) ∧ S.length ≤ 64 ∧ B.length ≤ 64
instance (S : List (List UInt8)) (B : List Int) : Decidable (Small40 S B) := by unfold Small40; infer_instance
theorem small40_eq (S : List (List UInt8)) (B : List Int) (hS : S.length ≤ maxLen) : bodyW DC 34 [drv S B] [] = some (.bool (decide (Small40 S B)), []) := by
  unfold maxLen at hS
  (refine gives_iff ?_; refine go_func Try.f34 rfl rfl (by simp [Try.f34]) ?_; dsimp only [codeL, Try.f34, scL, sopsL, guardL, dstAt, loopKey])
  (repeat (first
    | (apply is_ok; (case hw => simp); (case he => simp; exact is_rfl))
    | (apply op_no; (case hw => simp))
    | refine op_nil ?_ | refine next_normal ?_ | refine go_seq ?_ | refine go_region ?_ | refine go_skip ?_ | refine go_block ?_ | refine inb_normal ?_
    | (apply go_yes; (case hc => simp)) | (apply go_no; (case hc => simp))
    | refine go_exit ?_ | refine next_exit ?_ | refine inb_here ?_ | refine inb_past (by decide) ?_ | refine go_ret ?_ | refine next_ret ?_ | refine inb_ret ?_))
  refine go_count 65 (fun i => [(1, .ptr 0 1 0 0), (3, .int .i64 i)]) (fun _ => [.box (drv S B)]) (fun i => i ≤ S.length ∧ ∀ j (hj : j < S.length), j < i → S[j].length ≤ 128) (by simp) (by simp) fun i hi hI => ?_
  have hw : IntKind.i64.wrap ((i : Int) + 1) = (i : Int) + 1 := wrap_id (by omega) (by omega)
  have fin : (i = S.length ∨ i = 65) → (Small40 S B ↔ S.length ≤ 64 ∧ B.length ≤ 64) := fun h => by
    unfold Small40
    refine ⟨fun h => h.2, fun h2 => ⟨fun j hj hj2 => ?_, h2⟩⟩
    have hj' := List.mem_range.1 hj
    rw [getD_at hj']
    exact hI.2 j hj' (by omega)
  by_cases h1 : i < S.length
  · by_cases h2 : i < 65
    · have h2' : (i : Int) < 65 := by omega
      by_cases h3 : S[i].length ≤ 128
      · have e3 : ¬ ((128 : Int) < S[i].length) := by omega
        (repeat (first
    | (apply is_ok; (case hw => simp [h1, h2, h2', e3]); (case he => simp [h1, h2, h2', e3]; exact is_rfl))
    | (apply op_no; (case hw => simp [h1, h2, h2', e3]))
    | refine op_nil ?_ | refine next_normal ?_ | refine go_seq ?_ | refine go_region ?_ | refine go_skip ?_ | refine go_block ?_ | refine inb_normal ?_
    | (apply go_yes; (case hc => simp [h1, h2, h2', e3])) | (apply go_no; (case hc => simp [h1, h2, h2', e3]))
    | refine go_exit ?_ | refine next_exit ?_ | refine inb_here ?_ | refine inb_past (by decide) ?_ | refine go_ret ?_ | refine next_ret ?_ | refine inb_ret ?_))
        exact ⟨h2, by simp [hw], h1, fun j hj hji => by
          by_cases hje : j = i
          · subst hje; exact h3
          · exact hI.2 j hj (by omega)⟩
      · have e3 : ((128 : Int) < S[i].length) := by omega
        (repeat (first
    | (apply is_ok; (case hw => simp [h1, h2, h2', e3]); (case he => simp [h1, h2, h2', e3]; exact is_rfl))
    | (apply op_no; (case hw => simp [h1, h2, h2', e3]))
    | refine op_nil ?_ | refine next_normal ?_ | refine go_seq ?_ | refine go_region ?_ | refine go_skip ?_ | refine go_block ?_ | refine inb_normal ?_
    | (apply go_yes; (case hc => simp [h1, h2, h2', e3])) | (apply go_no; (case hc => simp [h1, h2, h2', e3]))
    | refine go_exit ?_ | refine next_exit ?_ | refine inb_here ?_ | refine inb_past (by decide) ?_ | refine go_ret ?_ | refine next_ret ?_ | refine inb_ret ?_))
        (apply ends_ok; (case h1 => simp; exact is_rfl); (case h2 => simp; exact is_rfl))
        have : ¬ Small40 S B := fun h => h3 (by have := h.1 i (List.mem_range.2 h1) h2; rwa [getD_at h1] at this)
        simp [this]
    · have h2' : ¬ (i : Int) < 65 := by omega
      have hf := fin (.inr (by omega))
      have e4 : ¬ ((S.length : Int) ≤ 64) := by omega
      have hn : ¬ Small40 S B := fun h => by have := (hf.1 h).1; omega
      (repeat (first
    | (apply is_ok; (case hw => simp [h1, h2, h2', e4]); (case he => simp [h1, h2, h2', e4]; exact is_rfl))
    | (apply op_no; (case hw => simp [h1, h2, h2', e4]))
    | refine op_nil ?_ | refine next_normal ?_ | refine go_seq ?_ | refine go_region ?_ | refine go_skip ?_ | refine go_block ?_ | refine inb_normal ?_
    | (apply go_yes; (case hc => simp [h1, h2, h2', e4])) | (apply go_no; (case hc => simp [h1, h2, h2', e4]))
    | refine go_exit ?_ | refine next_exit ?_ | refine inb_here ?_ | refine inb_past (by decide) ?_ | refine go_ret ?_ | refine next_ret ?_ | refine inb_ret ?_))
      (apply ends_ok; (case h1 => simp; exact is_rfl); (case h2 => simp; exact is_rfl))
      simp [hn]
  · have hf := fin (.inl (by omega))
    by_cases h4 : S.length ≤ 64
    · have e4 : ((S.length : Int) ≤ 64) := by omega
      by_cases h5 : B.length ≤ 64
      · have e5 : ((B.length : Int) ≤ 64) := by omega
        have hn : Small40 S B := hf.2 ⟨h4, h5⟩
        (repeat (first
    | (apply is_ok; (case hw => simp [h1, e4, e5]); (case he => simp [h1, e4, e5]; exact is_rfl))
    | (apply op_no; (case hw => simp [h1, e4, e5]))
    | refine op_nil ?_ | refine next_normal ?_ | refine go_seq ?_ | refine go_region ?_ | refine go_skip ?_ | refine go_block ?_ | refine inb_normal ?_
    | (apply go_yes; (case hc => simp [h1, e4, e5])) | (apply go_no; (case hc => simp [h1, e4, e5]))
    | refine go_exit ?_ | refine next_exit ?_ | refine inb_here ?_ | refine inb_past (by decide) ?_ | refine go_ret ?_ | refine next_ret ?_ | refine inb_ret ?_))
        (apply ends_ok; (case h1 => simp; exact is_rfl); (case h2 => simp; exact is_rfl))
        simp [hn]
      · have e5 : ¬ ((B.length : Int) ≤ 64) := by omega
        have hn : ¬ Small40 S B := fun h => h5 (hf.1 h).2
        (repeat (first
    | (apply is_ok; (case hw => simp [h1, e4, e5]); (case he => simp [h1, e4, e5]; exact is_rfl))
    | (apply op_no; (case hw => simp [h1, e4, e5]))
    | refine op_nil ?_ | refine next_normal ?_ | refine go_seq ?_ | refine go_region ?_ | refine go_skip ?_ | refine go_block ?_ | refine inb_normal ?_
    | (apply go_yes; (case hc => simp [h1, e4, e5])) | (apply go_no; (case hc => simp [h1, e4, e5]))
    | refine go_exit ?_ | refine next_exit ?_ | refine inb_here ?_ | refine inb_past (by decide) ?_ | refine go_ret ?_ | refine next_ret ?_ | refine inb_ret ?_))
        (apply ends_ok; (case h1 => simp; exact is_rfl); (case h2 => simp; exact is_rfl))
        simp [hn]
    · have e4 : ¬ ((S.length : Int) ≤ 64) := by omega
      have hn : ¬ Small40 S B := fun h => h4 (hf.1 h).1
      (repeat (first
    | (apply is_ok; (case hw => simp [h1, e4]); (case he => simp [h1, e4]; exact is_rfl))
    | (apply op_no; (case hw => simp [h1, e4]))
    | refine op_nil ?_ | refine next_normal ?_ | refine go_seq ?_ | refine go_region ?_ | refine go_skip ?_ | refine go_block ?_ | refine inb_normal ?_
    | (apply go_yes; (case hc => simp [h1, e4])) | (apply go_no; (case hc => simp [h1, e4]))
    | refine go_exit ?_ | refine next_exit ?_ | refine inb_here ?_ | refine inb_past (by decide) ?_ | refine go_ret ?_ | refine next_ret ?_ | refine inb_ret ?_))
      (apply ends_ok; (case h1 => simp; exact is_rfl); (case h2 => simp; exact is_rfl))
      simp [hn]


theorem putS_padW {S : List (List UInt8)} {w : Int × List UInt8} (h : w.2.length ≤ 128) : putS S (padW w) = putS S w := by
  show S.set w.1.toNat (padS (padS w.2)) = S.set w.1.toNat (padS w.2)
  rw [padS_pad h]
theorem puts_padW : ∀ (m : List (Int × List UInt8)) (S : List (List UInt8)), (∀ w ∈ m, w.2.length ≤ 128) → puts S (m.map padW) = puts S m
  | [], _, _ => rfl
  | w :: m, S, h => by
    rw [List.map_cons]
    show puts (putS S (padW w)) (m.map padW) = puts (putS S w) m
    rw [putS_padW (h w (List.mem_cons_self ..)), puts_padW m _ fun v hv => h v (List.mem_cons_of_mem _ hv)]

theorem Alike_eq (S T : List (List UInt8)) (B C : List Int) (hS : S.length ≤ 1000000) (hl : T.length = S.length) (h : ∀ i : Nat, 18 ≤ i → S.getD i [] = T.getD i []) :
    bodyW DC 38 [drv S B, drv T C] [] = some (.bool true, []) := by
  have hD := DiffR_eq S T B C hS (by omega)
  have hl2 : (diffA S T).length ≤ 1000000 := by
    have h1 := diffL_length S T (max S.length T.length)
    have h2 : max S.length T.length ≤ 1000000 := by rw [hl, Nat.max_self]; exact hS
    exact Nat.le_trans h1 h2
  have hm : ∀ x ∈ diffA S T, x < 18 := fun x hx => by
    obtain ⟨j, rfl, hj⟩ := diffL_mem hx
    by_cases h18 : 18 ≤ j
    · exfalso
      have h1 := h j h18
      by_cases hlt : j < S.length
      · rw [getD_at hlt, getD_at (by omega)] at h1
        rw [List.getElem?_eq_getElem hlt, List.getElem?_eq_getElem (by omega), h1] at hj
        exact hj rfl
      · rw [List.getElem?_eq_none (by omega), List.getElem?_eq_none (by omega)] at hj
        exact hj rfl
    · omega
  generalize diffA S T = D at hD hl2 hm
  (refine gives_iff ?_; refine go_func Try.f38 rfl rfl (by simp [Try.f38]) ?_; dsimp only [codeL, Try.f38, scL, sopsL, guardL, dstAt, loopKey])
  (repeat (first
    | (apply is_ok; (case hw => simp [hD]); (case he => simp [hD]; exact is_rfl))
    | (apply op_no; (case hw => simp [hD]))
    | refine op_nil ?_ | refine next_normal ?_ | refine go_seq ?_ | refine go_region ?_ | refine go_skip ?_ | refine go_block ?_ | refine inb_normal ?_
    | (apply go_yes; (case hc => simp [hD])) | (apply go_no; (case hc => simp [hD]))
    | refine go_exit ?_ | refine next_exit ?_ | refine inb_here ?_ | refine inb_past (by decide) ?_ | refine go_ret ?_ | refine next_ret ?_ | refine inb_ret ?_))
  refine go_count D.length (fun i => [(5, .own 0 D.length 0 D.length), (6, .int .i64 i)]) (fun i => [.dat true 1 (ints D)]) (fun _ => True) (by simp) trivial fun i hi _ => ?_
  have hw : IntKind.i64.wrap ((i : Int) + 1) = (i : Int) + 1 := wrap_id (by omega) (by omega)
  by_cases hlt : i < D.length
  · have gx : D[i]? = some (D[i]'hlt) := List.getElem?_eq_getElem hlt
    have h18 := hm _ (List.getElem_mem hlt)
    generalize hx0 : D[i]'hlt = x at gx h18
    have h18' : ¬ 18 ≤ x := by omega
    (repeat (first
    | (apply is_ok; (case hw => simp [hlt, gx, hx0, h18']); (case he => simp [hlt, gx, hx0, h18']; exact is_rfl))
    | (apply op_no; (case hw => simp [hlt, gx, hx0, h18']))
    | refine op_nil ?_ | refine next_normal ?_ | refine go_seq ?_ | refine go_region ?_ | refine go_skip ?_ | refine go_block ?_ | refine inb_normal ?_
    | (apply go_yes; (case hc => simp [hlt, gx, hx0, h18'])) | (apply go_no; (case hc => simp [hlt, gx, hx0, h18']))
    | refine go_exit ?_ | refine next_exit ?_ | refine inb_here ?_ | refine inb_past (by decide) ?_ | refine go_ret ?_ | refine next_ret ?_ | refine inb_ret ?_))
    exact ⟨hlt, by simp [hw], trivial⟩
  · (repeat (first
    | (apply is_ok; (case hw => simp [hlt]); (case he => simp [hlt]; exact is_rfl))
    | (apply op_no; (case hw => simp [hlt]))
    | refine op_nil ?_ | refine next_normal ?_ | refine go_seq ?_ | refine go_region ?_ | refine go_skip ?_ | refine go_block ?_ | refine inb_normal ?_
    | (apply go_yes; (case hc => simp [hlt])) | (apply go_no; (case hc => simp [hlt]))
    | refine go_exit ?_ | refine next_exit ?_ | refine inb_here ?_ | refine inb_past (by decide) ?_ | refine go_ret ?_ | refine next_ret ?_ | refine inb_ret ?_))
    (apply ends_ok; (case h1 => simp; exact is_rfl); (case h2 => simp; exact is_rfl))
    simp

theorem PartsTransactions_eq (S : List (List UInt8)) (B : List Int) (hS : S.length ≤ maxLen) (hB : B.length ≤ maxLen) (l : List (Int × List UInt8)) (hl : l.length ≤ maxLen) (hX : In64 (l.map Prod.fst)) :
    bodyW DC 10 [drv S B, .sl (l.map wrV)] [] = some (.bool true, []) := by
  have hM := small40_eq S B hS
  by_cases hs : Small40 S B
  case neg =>
    (refine gives_iff ?_; refine go_func Try.f10 rfl rfl (by simp [Try.f10]) ?_; dsimp only [codeL, Try.f10, scL, sopsL, guardL, dstAt, loopKey])
    (repeat (first
    | (apply is_ok; (case hw => simp [hM, hs]); (case he => simp [hM, hs]; exact is_rfl))
    | (apply op_no; (case hw => simp [hM, hs]))
    | refine op_nil ?_ | refine next_normal ?_ | refine go_seq ?_ | refine go_region ?_ | refine go_skip ?_ | refine go_block ?_ | refine inb_normal ?_
    | (apply go_yes; (case hc => simp [hM, hs])) | (apply go_no; (case hc => simp [hM, hs]))
    | refine go_exit ?_ | refine next_exit ?_ | refine inb_here ?_ | refine inb_past (by decide) ?_ | refine go_ret ?_ | refine next_ret ?_ | refine inb_ret ?_))
    (apply ends_ok; (case h1 => simp; exact is_rfl); (case h2 => simp; exact is_rfl))
    simp
  by_cases hb : B = []
  case neg =>
    have hb2 : 0 < B.length := List.length_pos_iff.2 hb
    have hb3 : (0 : Int) < B.length := by omega
    (refine gives_iff ?_; refine go_func Try.f10 rfl rfl (by simp [Try.f10]) ?_; dsimp only [codeL, Try.f10, scL, sopsL, guardL, dstAt, loopKey])
    (repeat (first
    | (apply is_ok; (case hw => simp [hM, hs, hb2, hb3, hb]); (case he => simp [hM, hs, hb2, hb3, hb]; exact is_rfl))
    | (apply op_no; (case hw => simp [hM, hs, hb2, hb3, hb]))
    | refine op_nil ?_ | refine next_normal ?_ | refine go_seq ?_ | refine go_region ?_ | refine go_skip ?_ | refine go_block ?_ | refine inb_normal ?_
    | (apply go_yes; (case hc => simp [hM, hs, hb2, hb3, hb])) | (apply go_no; (case hc => simp [hM, hs, hb2, hb3, hb]))
    | refine go_exit ?_ | refine next_exit ?_ | refine inb_here ?_ | refine inb_past (by decide) ?_ | refine go_ret ?_ | refine next_ret ?_ | refine inb_ret ?_))
    (apply ends_ok; (case h1 => simp; exact is_rfl); (case h2 => simp; exact is_rfl))
    simp
  subst hb
  replace hM : bodyW DC 34 [.agg [.sl (strs S), .sl []]] [] = some (.bool (decide (Small40 S [])), []) := hM
  by_cases h20 : l.length ≤ 20
  case neg =>
    have h20' : (20 : Int) < l.length := by omega
    (refine gives_iff ?_; refine go_func Try.f10 rfl rfl (by simp [Try.f10]) ?_; dsimp only [codeL, Try.f10, scL, sopsL, guardL, dstAt, loopKey])
    (repeat (first
    | (apply is_ok; (case hw => simp [hM, hs, h20, h20']); (case he => simp [hM, hs, h20, h20']; exact is_rfl))
    | (apply op_no; (case hw => simp [hM, hs, h20, h20']))
    | refine op_nil ?_ | refine next_normal ?_ | refine go_seq ?_ | refine go_region ?_ | refine go_skip ?_ | refine go_block ?_ | refine inb_normal ?_
    | (apply go_yes; (case hc => simp [hM, hs, h20, h20'])) | (apply go_no; (case hc => simp [hM, hs, h20, h20']))
    | refine go_exit ?_ | refine next_exit ?_ | refine inb_here ?_ | refine inb_past (by decide) ?_ | refine go_ret ?_ | refine next_ret ?_ | refine inb_ret ?_))
    (apply ends_ok; (case h1 => simp; exact is_rfl); (case h2 => simp; exact is_rfl))
    simp
  have h20' : ¬ (20 : Int) < l.length := by omega
  have hP := Plan_eq S [] hB l (by omega) hX
  replace hP : bodyW DC 35 [.agg [.sl (strs S), .sl []], .sl (l.map wrV)] [] = some (.tuple [.own 0 (planS S [] l).1.length 0 (planS S [] l).1.length, .int .i64 (planS S [] l).2], [.dat true 2 ((planS S [] l).1.map wrV)]) := hP
  have hMg := Merge_eq l (by omega)
  have hml : (mergeL l).length ≤ l.length := by rw [mergeL_length]; exact keysL_length l
  (refine gives_iff ?_; refine go_func Try.f10 rfl rfl (by simp [Try.f10]) ?_; dsimp only [codeL, Try.f10, scL, sopsL, guardL, dstAt, loopKey])
  (repeat (first
    | (apply is_ok; (case hw => simp [hM, hs, h20, h20']); (case he => simp [hM, hs, h20, h20']; exact is_rfl))
    | (apply op_no; (case hw => simp [hM, hs, h20, h20']))
    | refine op_nil ?_ | refine next_normal ?_ | refine go_seq ?_ | refine go_region ?_ | refine go_skip ?_ | refine go_block ?_ | refine inb_normal ?_
    | (apply go_yes; (case hc => simp [hM, hs, h20, h20'])) | (apply go_no; (case hc => simp [hM, hs, h20, h20']))
    | refine go_exit ?_ | refine next_exit ?_ | refine inb_here ?_ | refine inb_past (by decide) ?_ | refine go_ret ?_ | refine next_ret ?_ | refine inb_ret ?_))
  refine go_count l.length (fun i => [(1, .sl (l.map wrV)), (2, .ptr 0 1 0 0), (5, .int .i64 i)]) (fun i => [.box (.agg [.sl (strs S), .sl []])]) (fun _ => True) (by simp) trivial fun i hi _ => ?_
  have hw : IntKind.i64.wrap ((i : Int) + 1) = (i : Int) + 1 := wrap_id (by omega) (by omega)
  by_cases hlt : i < l.length
  · have gx : l[i]? = some (l[i]'hlt) := List.getElem?_eq_getElem hlt
    generalize hx0 : l[i]'hlt = x at gx
    by_cases h3 : x.2.length ≤ 128
    · have h3' : ¬ (128 : Int) < x.2.length := by omega
      (repeat (first
    | (apply is_ok; (case hw => simp [hlt, gx, hx0, h3']); (case he => simp [hlt, gx, hx0, h3']; exact is_rfl))
    | (apply op_no; (case hw => simp [hlt, gx, hx0, h3']))
    | refine op_nil ?_ | refine next_normal ?_ | refine go_seq ?_ | refine go_region ?_ | refine go_skip ?_ | refine go_block ?_ | refine inb_normal ?_
    | (apply go_yes; (case hc => simp [hlt, gx, hx0, h3'])) | (apply go_no; (case hc => simp [hlt, gx, hx0, h3']))
    | refine go_exit ?_ | refine next_exit ?_ | refine inb_here ?_ | refine inb_past (by decide) ?_ | refine go_ret ?_ | refine next_ret ?_ | refine inb_ret ?_))
      exact ⟨hlt, by simp [hw], trivial⟩
    · have h3' : (128 : Int) < x.2.length := by omega
      (repeat (first
    | (apply is_ok; (case hw => simp [hlt, gx, hx0, h3']); (case he => simp [hlt, gx, hx0, h3']; exact is_rfl))
    | (apply op_no; (case hw => simp [hlt, gx, hx0, h3']))
    | refine op_nil ?_ | refine next_normal ?_ | refine go_seq ?_ | refine go_region ?_ | refine go_skip ?_ | refine go_block ?_ | refine inb_normal ?_
    | (apply go_yes; (case hc => simp [hlt, gx, hx0, h3'])) | (apply go_no; (case hc => simp [hlt, gx, hx0, h3']))
    | refine go_exit ?_ | refine next_exit ?_ | refine inb_here ?_ | refine inb_past (by decide) ?_ | refine go_ret ?_ | refine next_ret ?_ | refine inb_ret ?_))
      (apply ends_ok; (case h1 => simp; exact is_rfl); (case h2 => simp; exact is_rfl))
      simp
  · by_cases he : (planS S [] l).2 = 0
    case neg =>
      generalize planS S [] l = p at hP he
      (repeat (first
    | (apply is_ok; (case hw => simp [hlt, hP, he]); (case he => simp [hlt, hP, he]; exact is_rfl))
    | (apply op_no; (case hw => simp [hlt, hP, he]))
    | refine op_nil ?_ | refine next_normal ?_ | refine go_seq ?_ | refine go_region ?_ | refine go_skip ?_ | refine go_block ?_ | refine inb_normal ?_
    | (apply go_yes; (case hc => simp [hlt, hP, he])) | (apply go_no; (case hc => simp [hlt, hP, he]))
    | refine go_exit ?_ | refine next_exit ?_ | refine inb_here ?_ | refine inb_past (by decide) ?_ | refine go_ret ?_ | refine next_ret ?_ | refine inb_ret ?_))
      (apply ends_ok; (case h1 => simp; exact is_rfl); (case h2 => simp; exact is_rfl))
      simp
    by_cases h0 : (planS S [] l).1.length = 0
    · obtain ⟨hv, hc, hwr, h16, e⟩ := planS_ok he
      have hm0 : (mergeL l).length = 0 := by
        by_cases hm0 : (mergeL l).length = 0
        · exact hm0
        · rw [e, if_neg hm0, planL_len] at h0
          omega
      have hb := vol_bounds hv
      rw [e, if_pos hm0] at hP
      rw [List.eq_nil_of_length_eq_zero hm0] at hMg
      have hA := Apply_eq S [] (by omega) (by simp) [] (by simp) (-1)
      have hA' : bodyW DC 36 [.agg [.sl (strs S), .sl []], .sl [], .int .i64 (-1)] [] = some (.tuple [.agg [.own 0 S.length 0 S.length, .own 1 0 0 0], .int .i64 0, .int .i64 0], [.dat true 1 (strs S), .dat true 1 []]) := hA
      have hAl : bodyW DC 38 [.agg [.sl (strs S), .sl []], .agg [.sl (strs S), .sl []]] [] = some (.bool true, []) := Alike_eq S S [] [] (by omega) rfl fun _ _ => rfl
      have hC := Clean_eq S [] (by simp [maxLen])
      rw [decide_eq_true hc] at hC
      have hC' : bodyW DC 39 [.agg [.sl (strs S), .sl []]] [] = some (.bool true, []) := hC
      (repeat (first
    | (apply is_ok; (case hw => simp [hlt, hP, hA', hMg, hAl, hC']); (case he => simp [hlt, hP, hA', hMg, hAl, hC']; exact is_rfl))
    | (apply op_no; (case hw => simp [hlt, hP, hA', hMg, hAl, hC']))
    | refine op_nil ?_ | refine next_normal ?_ | refine go_seq ?_ | refine go_region ?_ | refine go_skip ?_ | refine go_block ?_ | refine inb_normal ?_
    | (apply go_yes; (case hc => simp [hlt, hP, hA', hMg, hAl, hC'])) | (apply go_no; (case hc => simp [hlt, hP, hA', hMg, hAl, hC']))
    | refine go_exit ?_ | refine next_exit ?_ | refine inb_here ?_ | refine inb_past (by decide) ?_ | refine go_ret ?_ | refine next_ret ?_ | refine inb_ret ?_))
      (apply ends_ok; (case h1 => simp; exact is_rfl); (case h2 => simp; exact is_rfl))
      simp
    obtain ⟨hx, e⟩ := plan_txn he h0
    have hb := vol_bounds hx.vol
    rw [e] at hP
    have hd := hx.all
    rw [puts_padW _ _ fun w hw => (hx.keys w hw).2.2] at hd
    have hrec := hd.rec hx.vol
    have hok := hx.okP _ rfl
    have hokm : OkAll S.length [] (mergeL l) := fun w hw => by
      have := hx.keys w hw
      exact faultI_zero.2 ⟨⟨by omega, by omega⟩, this.2.2, by simp⟩
    have hpl := @planL_len (mergeL l)
    have h16 := hx.high
    have hA1 := Apply_eq S [] (by omega) (by simp) (planL (mergeL l)) (by omega) (-1)
    rw [applyS_all [] _ _ 0 hok] at hA1
    have hA2 := Apply_eq S [] (by omega) (by simp) (mergeL l) (by omega) (-1)
    rw [applyS_all [] _ _ 0 hokm] at hA2
    have hYl : (puts S (mergeL l)).length = S.length := puts_length ..
    generalize planL (mergeL l) = pl at hP hd hA1 hpl hrec
    generalize mergeL l = m at hMg hd hA2 hYl
    generalize puts S m = Y at hd hA2 hYl
    generalize puts S pl = X at hd hA1 hrec
    have hXl := hd.1
    have hA1' : bodyW DC 36 [.agg [.sl (strs S), .sl []], .sl (pl.map wrV), .int .i64 (-1)] [] = some (.tuple [.agg [.own 0 S.length 0 S.length, .own 1 0 0 0], .int .i64 (0 + pl.length : Nat), .int .i64 0], [.dat true 1 (strs X), .dat true 1 []]) := hA1
    have hA2' : bodyW DC 36 [.agg [.sl (strs S), .sl []], .sl (m.map wrV), .int .i64 (-1)] [] = some (.tuple [.agg [.own 0 S.length 0 S.length, .own 1 0 0 0], .int .i64 (0 + m.length : Nat), .int .i64 0], [.dat true 1 (strs Y), .dat true 1 []]) := hA2
    have hAl : bodyW DC 38 [.agg [.sl (strs X), .sl []], .agg [.sl (strs Y), .sl []]] [] = some (.bool true, []) := Alike_eq X Y [] [] (by omega) (by omega) hd.2.2.2.2
    have hC := Clean_eq X [] (by simp [maxLen])
    rw [decide_eq_true hrec.2] at hC
    have hC' : bodyW DC 39 [.agg [.sl (strs X), .sl []]] [] = some (.bool true, []) := hC
    (repeat (first
    | (apply is_ok; (case hw => simp [hlt, hP, hA1', hA2', hMg, hAl, hC', hXl, hYl]); (case he => simp [hlt, hP, hA1', hA2', hMg, hAl, hC', hXl, hYl]; exact is_rfl))
    | (apply op_no; (case hw => simp [hlt, hP, hA1', hA2', hMg, hAl, hC', hXl, hYl]))
    | refine op_nil ?_ | refine next_normal ?_ | refine go_seq ?_ | refine go_region ?_ | refine go_skip ?_ | refine go_block ?_ | refine inb_normal ?_
    | (apply go_yes; (case hc => simp [hlt, hP, hA1', hA2', hMg, hAl, hC', hXl, hYl])) | (apply go_no; (case hc => simp [hlt, hP, hA1', hA2', hMg, hAl, hC', hXl, hYl]))
    | refine go_exit ?_ | refine next_exit ?_ | refine inb_here ?_ | refine inb_past (by decide) ?_ | refine go_ret ?_ | refine next_ret ?_ | refine inb_ret ?_))
    (apply ends_ok; (case h1 => simp; exact is_rfl); (case h2 => simp; exact is_rfl))
    simp
end Go.Abs

