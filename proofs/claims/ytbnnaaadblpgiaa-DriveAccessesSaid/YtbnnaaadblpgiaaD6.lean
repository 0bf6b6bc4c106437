/- Proved here: what functions of the program compute, over the evaluator. No condition but those that each theorem states. -/
import Derived.Test.YtbnnaaadblpgiaaD5
namespace Go.Abs
open Go.Proofs
set_option maxRecDepth 100000
set_option linter.unusedSimpArgs false

def wornK (B : List Int) : List Int := B.foldl (fun ks n => if n ∈ ks then ks else ks ++ [n]) []
theorem wornK_take {B : List Int} {i : Nat} (h : i < B.length) : wornK (B.take (i + 1)) = if B[i] ∈ wornK (B.take i) then wornK (B.take i) else wornK (B.take i) ++ [B[i]] := by
  unfold wornK
  rw [List.take_succ_eq_append_getElem h, List.foldl_append]
  rfl
theorem foldl_mem (k : Int) : ∀ (B ks : List Int), k ∈ B.foldl (fun ks n => if n ∈ ks then ks else ks ++ [n]) ks ↔ k ∈ ks ∨ k ∈ B
  | [], ks => by simp
  | b :: B, ks => by
    rw [List.foldl_cons, foldl_mem k B]
    by_cases h : b ∈ ks
    · rw [if_pos h]
      constructor
      · rintro (h1 | h1)
        · exact .inl h1
        · exact .inr (List.mem_cons_of_mem _ h1)
      · rintro (h1 | h1)
        · exact .inl h1
        · rcases List.mem_cons.1 h1 with rfl | h1
          · exact .inl h
          · exact .inr h1
    · rw [if_neg h]; simp [or_assoc]
theorem mem_worn {k : Int} {B : List Int} : k ∈ wornK B ↔ k ∈ B := by unfold wornK; rw [foldl_mem]; simp

theorem findK_ints (k : Int) (v : V) : ∀ (ks : List Int), findK (.int .i64 k) (ints ks) (List.replicate ks.length v) = some (if k ∈ ks then some v else none)
  | [] => by simp [findK]
  | c :: ks => by
    simp only [List.map_cons, List.length_cons, List.replicate_succ, findK, sameKey]
    by_cases h : k = c
    · subst h; simp
    · have : (k == c) = false := by simpa using h
      simp only [if_true, this]
      rw [findK_ints k v ks]
      simp [h]
theorem findK_worn (k : Int) (v : V) (B : List Int) : findK (.int .i64 k) (ints (wornK B)) (List.replicate (wornK B).length v) = some (if k ∈ B then some v else none) := by
  rw [findK_ints]
  simp only [mem_worn]
theorem setK_ints (k : Int) (v : V) : ∀ (ks : List Int), setK (.int .i64 k) v (ints ks) (List.replicate ks.length v) = List.replicate ks.length v
  | [] => by simp [setK]
  | c :: ks => by
    simp only [List.map_cons, List.length_cons, List.replicate_succ, setK, sameKey]
    by_cases h : k = c
    · subst h; simp
    · have : (k == c) = false := by simpa using h
      simp only [if_true, this]
      rw [setK_ints k v ks]

abbrev wornV (B : List Int) : V := .mapr (ints (wornK B)) (List.replicate (wornK B).length (.bool true))

theorem worn_eq (S : List (List UInt8)) (B : List Int) (hB : B.length ≤ maxLen) : bodyW DC 19 [drv S B] [] = some (.map 0, [.map true (ints (wornK B)) (List.replicate (wornK B).length (.bool true))]) := by
  unfold maxLen at hB
  (refine gives_iff ?_; refine go_func Try.f19 rfl rfl (by simp [Try.f19]) ?_; dsimp only [codeL, Try.f19, scL, sopsL, guardL, dstAt, loopKey])
  (repeat (first
    | (apply is_ok; (case hw => simp); (case he => simp; exact is_rfl))
    | (apply op_no; (case hw => simp))
    | refine op_nil ?_ | refine next_normal ?_ | refine go_seq ?_ | refine go_region ?_ | refine go_skip ?_ | refine go_block ?_ | refine inb_normal ?_
    | (apply go_yes; (case hc => simp)) | (apply go_no; (case hc => simp))
    | refine go_exit ?_ | refine next_exit ?_ | refine inb_here ?_ | refine inb_past (by decide) ?_ | refine go_ret ?_ | refine next_ret ?_ | refine inb_ret ?_))
  refine go_count B.length (fun i => [(3, .map 0), (8, .sl (ints B)), (9, .int .i64 B.length), (10, .int .i64 i)]) (fun i => [.map true (ints (wornK (B.take i))) (List.replicate (wornK (B.take i)).length (.bool true))]) (fun _ => True) (by simp [wornK]) trivial fun i hi _ => ?_
  by_cases hlt : i < B.length
  · have hw : IntKind.i64.wrap ((i : Int) + 1) = (i : Int) + 1 := wrap_id (by omega) (by omega)
    have hf := findK_ints B[i] (.bool true) (wornK (B.take i))
    have hs := setK_ints B[i] (.bool true) (wornK (B.take i))
    by_cases hm : B[i] ∈ wornK (B.take i)
    · rw [if_pos hm] at hf
      (repeat (first
    | (apply is_ok; (case hw => simp [hlt, hf, hs]); (case he => simp [hlt, hf, hs]; exact is_rfl))
    | (apply op_no; (case hw => simp [hlt, hf, hs]))
    | refine op_nil ?_ | refine next_normal ?_ | refine go_seq ?_ | refine go_region ?_ | refine go_skip ?_ | refine go_block ?_ | refine inb_normal ?_
    | (apply go_yes; (case hc => simp [hlt, hf, hs])) | (apply go_no; (case hc => simp [hlt, hf, hs]))
    | refine go_exit ?_ | refine next_exit ?_ | refine inb_here ?_ | refine inb_past (by decide) ?_ | refine go_ret ?_ | refine next_ret ?_ | refine inb_ret ?_))
      exact ⟨hlt, by simp [hw, wornK_take hlt, hm], trivial⟩
    · rw [if_neg hm] at hf
      (repeat (first
    | (apply is_ok; (case hw => simp [hlt, hf, hs]); (case he => simp [hlt, hf, hs]; exact is_rfl))
    | (apply op_no; (case hw => simp [hlt, hf, hs]))
    | refine op_nil ?_ | refine next_normal ?_ | refine go_seq ?_ | refine go_region ?_ | refine go_skip ?_ | refine go_block ?_ | refine inb_normal ?_
    | (apply go_yes; (case hc => simp [hlt, hf, hs])) | (apply go_no; (case hc => simp [hlt, hf, hs]))
    | refine go_exit ?_ | refine next_exit ?_ | refine inb_here ?_ | refine inb_past (by decide) ?_ | refine go_ret ?_ | refine next_ret ?_ | refine inb_ret ?_))
      exact ⟨hlt, by simp [hw, wornK_take hlt, hm, List.replicate_succ'], trivial⟩
  · have : i = B.length := by omega
    subst this
    rw [List.take_length]
    (repeat (first
    | (apply is_ok; (case hw => simp); (case he => simp; exact is_rfl))
    | (apply op_no; (case hw => simp))
    | refine op_nil ?_ | refine next_normal ?_ | refine go_seq ?_ | refine go_region ?_ | refine go_skip ?_ | refine go_block ?_ | refine inb_normal ?_
    | (apply go_yes; (case hc => simp)) | (apply go_no; (case hc => simp))
    | refine go_exit ?_ | refine next_exit ?_ | refine inb_here ?_ | refine inb_past (by decide) ?_ | refine go_ret ?_ | refine next_ret ?_ | refine inb_ret ?_))
    (apply ends_ok; (case h1 => simp; exact is_rfl); (case h2 => simp; exact is_rfl))
    simp

def readS (S : List (List UInt8)) (B : List Int) (k : Int) : List UInt8 × Int := if 0 ≤ k ∧ k < S.length then if k ∈ B then ([], 21) else (S.getD k.toNat [], 0) else ([], 2)

theorem Read_eq (S : List (List UInt8)) (B : List Int) (hB : B.length ≤ maxLen) (k : Int) : bodyW DC 6 [drv S B, .int .i64 k] [] = some (.tuple [.str (readS S B k).1, .int .i64 (readS S B k).2], []) := by
  have hH := has_eq S B k
  have hW := worn_eq S B hB
  have hf := findK_worn k (.bool true) B
  unfold readS
  (refine gives_iff ?_; refine go_func Try.f6 rfl rfl (by simp [Try.f6]) ?_; dsimp only [codeL, Try.f6, scL, sopsL, guardL, dstAt, loopKey])
  by_cases h : 0 ≤ k ∧ k < S.length
  · have hl : k.toNat < S.length := by omega
    by_cases hk : k ∈ B
    · rw [if_pos hk] at hf
      (repeat (first
    | (apply is_ok; (case hw => simp [hH, hW, hf, h]); (case he => simp [hH, hW, hf, h]; exact is_rfl))
    | (apply op_no; (case hw => simp [hH, hW, hf, h]))
    | refine op_nil ?_ | refine next_normal ?_ | refine go_seq ?_ | refine go_region ?_ | refine go_skip ?_ | refine go_block ?_ | refine inb_normal ?_
    | (apply go_yes; (case hc => simp [hH, hW, hf, h])) | (apply go_no; (case hc => simp [hH, hW, hf, h]))
    | refine go_exit ?_ | refine next_exit ?_ | refine inb_here ?_ | refine inb_past (by decide) ?_ | refine go_ret ?_ | refine next_ret ?_ | refine inb_ret ?_))
      (apply ends_ok; (case h1 => simp; exact is_rfl); (case h2 => simp; exact is_rfl))
      simp [h, hk]
    · rw [if_neg hk] at hf
      (repeat (first
    | (apply is_ok; (case hw => simp [hH, hW, hf, h, hl]); (case he => simp [hH, hW, hf, h, hl]; exact is_rfl))
    | (apply op_no; (case hw => simp [hH, hW, hf, h, hl]))
    | refine op_nil ?_ | refine next_normal ?_ | refine go_seq ?_ | refine go_region ?_ | refine go_skip ?_ | refine go_block ?_ | refine inb_normal ?_
    | (apply go_yes; (case hc => simp [hH, hW, hf, h, hl])) | (apply go_no; (case hc => simp [hH, hW, hf, h, hl]))
    | refine go_exit ?_ | refine next_exit ?_ | refine inb_here ?_ | refine inb_past (by decide) ?_ | refine go_ret ?_ | refine next_ret ?_ | refine inb_ret ?_))
      (apply ends_ok; (case h1 => simp; exact is_rfl); (case h2 => simp; exact is_rfl))
      simp [h, hk, hl]
  · (repeat (first
    | (apply is_ok; (case hw => simp [hH, h]); (case he => simp [hH, h]; exact is_rfl))
    | (apply op_no; (case hw => simp [hH, h]))
    | refine op_nil ?_ | refine next_normal ?_ | refine go_seq ?_ | refine go_region ?_ | refine go_skip ?_ | refine go_block ?_ | refine inb_normal ?_
    | (apply go_yes; (case hc => simp [hH, h])) | (apply go_no; (case hc => simp [hH, h]))
    | refine go_exit ?_ | refine next_exit ?_ | refine inb_here ?_ | refine inb_past (by decide) ?_ | refine go_ret ?_ | refine next_ret ?_ | refine inb_ret ?_))
    (apply ends_ok; (case h1 => simp; exact is_rfl); (case h2 => simp; exact is_rfl))
    simp [h]

theorem ReadR_eq (S : List (List UInt8)) (B : List Int) (hB : B.length ≤ maxLen) (k : Int) : bodyW DC 7 [drv S B, .int .i64 k] [] = some (.tuple [.str (readS S B k).1, .int .i64 (readS S B k).2], []) := by
  have hI := Isbad_eq S B hB k
  unfold readS
  (refine gives_iff ?_; refine go_func Try.f7 rfl rfl (by simp [Try.f7]) ?_; dsimp only [codeL, Try.f7, scL, sopsL, guardL, dstAt, loopKey])
  by_cases h : 0 ≤ k ∧ k < S.length
  · have hl : k.toNat < S.length := by omega
    have h1 : ¬ (k < 0) := by omega
    have h2 : ¬ ((S.length : Int) ≤ k) := by omega
    by_cases hk : k ∈ B
    · (repeat (first
    | (apply is_ok; (case hw => simp [hI, h, h1, h2, hk]); (case he => simp [hI, h, h1, h2, hk]; exact is_rfl))
    | (apply op_no; (case hw => simp [hI, h, h1, h2, hk]))
    | refine op_nil ?_ | refine next_normal ?_ | refine go_seq ?_ | refine go_region ?_ | refine go_skip ?_ | refine go_block ?_ | refine inb_normal ?_
    | (apply go_yes; (case hc => simp [hI, h, h1, h2, hk])) | (apply go_no; (case hc => simp [hI, h, h1, h2, hk]))
    | refine go_exit ?_ | refine next_exit ?_ | refine inb_here ?_ | refine inb_past (by decide) ?_ | refine go_ret ?_ | refine next_ret ?_ | refine inb_ret ?_))
      (apply ends_ok; (case h1 => simp; exact is_rfl); (case h2 => simp; exact is_rfl))
      simp [h, hk]
    · (repeat (first
    | (apply is_ok; (case hw => simp [hI, h, h1, h2, hk, hl]); (case he => simp [hI, h, h1, h2, hk, hl]; exact is_rfl))
    | (apply op_no; (case hw => simp [hI, h, h1, h2, hk, hl]))
    | refine op_nil ?_ | refine next_normal ?_ | refine go_seq ?_ | refine go_region ?_ | refine go_skip ?_ | refine go_block ?_ | refine inb_normal ?_
    | (apply go_yes; (case hc => simp [hI, h, h1, h2, hk, hl])) | (apply go_no; (case hc => simp [hI, h, h1, h2, hk, hl]))
    | refine go_exit ?_ | refine next_exit ?_ | refine inb_here ?_ | refine inb_past (by decide) ?_ | refine go_ret ?_ | refine next_ret ?_ | refine inb_ret ?_))
      (apply ends_ok; (case h1 => simp; exact is_rfl); (case h2 => simp; exact is_rfl))
      simp [h, hk, hl]
  · by_cases h1 : k < 0
    · (repeat (first
    | (apply is_ok; (case hw => simp [h1]); (case he => simp [h1]; exact is_rfl))
    | (apply op_no; (case hw => simp [h1]))
    | refine op_nil ?_ | refine next_normal ?_ | refine go_seq ?_ | refine go_region ?_ | refine go_skip ?_ | refine go_block ?_ | refine inb_normal ?_
    | (apply go_yes; (case hc => simp [h1])) | (apply go_no; (case hc => simp [h1]))
    | refine go_exit ?_ | refine next_exit ?_ | refine inb_here ?_ | refine inb_past (by decide) ?_ | refine go_ret ?_ | refine next_ret ?_ | refine inb_ret ?_))
      (apply ends_ok; (case h1 => simp; exact is_rfl); (case h2 => simp; exact is_rfl))
      simp [h]
    · have h2 : ((S.length : Int) ≤ k) := by omega
      (repeat (first
    | (apply is_ok; (case hw => simp [h1, h2]); (case he => simp [h1, h2]; exact is_rfl))
    | (apply op_no; (case hw => simp [h1, h2]))
    | refine op_nil ?_ | refine next_normal ?_ | refine go_seq ?_ | refine go_region ?_ | refine go_skip ?_ | refine go_block ?_ | refine inb_normal ?_
    | (apply go_yes; (case hc => simp [h1, h2])) | (apply go_no; (case hc => simp [h1, h2]))
    | refine go_exit ?_ | refine next_exit ?_ | refine inb_here ?_ | refine inb_past (by decide) ?_ | refine go_ret ?_ | refine next_ret ?_ | refine inb_ret ?_))
      (apply ends_ok; (case h1 => simp; exact is_rfl); (case h2 => simp; exact is_rfl))
      simp [h]

abbrev wrV (w : Int × List UInt8) : V := .agg [.int .i64 w.1, .str w.2]
def faultI (n : Nat) (B : List Int) (w : Int × List UInt8) : Int := if 0 ≤ w.1 ∧ w.1 < n then if 128 < w.2.length then 7 else if w.1 ∈ B then 21 else 0 else 2

theorem fault_eq (S : List (List UInt8)) (B : List Int) (w : Int × List UInt8) : bodyW DC 28 [drv S B, wornV B, wrV w] [] = some (.int .i64 (faultI S.length B w), []) := by
  have hH := has_eq S B w.1
  have hf := findK_worn w.1 (.bool true) B
  unfold faultI
  (refine gives_iff ?_; refine go_func Try.f28 rfl rfl (by simp [Try.f28]) ?_; dsimp only [codeL, Try.f28, scL, sopsL, guardL, dstAt, loopKey])
  by_cases h : 0 ≤ w.1 ∧ w.1 < S.length
  · by_cases h2 : 128 < w.2.length
    · have e2 : (128 : Int) < w.2.length := by omega
      (repeat (first
    | (apply is_ok; (case hw => simp [hH, h, h2, e2]); (case he => simp [hH, h, h2, e2]; exact is_rfl))
    | (apply op_no; (case hw => simp [hH, h, h2, e2]))
    | refine op_nil ?_ | refine next_normal ?_ | refine go_seq ?_ | refine go_region ?_ | refine go_skip ?_ | refine go_block ?_ | refine inb_normal ?_
    | (apply go_yes; (case hc => simp [hH, h, h2, e2])) | (apply go_no; (case hc => simp [hH, h, h2, e2]))
    | refine go_exit ?_ | refine next_exit ?_ | refine inb_here ?_ | refine inb_past (by decide) ?_ | refine go_ret ?_ | refine next_ret ?_ | refine inb_ret ?_))
      (apply ends_ok; (case h1 => simp; exact is_rfl); (case h2 => simp; exact is_rfl))
      simp [h, h2]
    · have e2 : ¬ ((128 : Int) < w.2.length) := by omega
      by_cases hk : w.1 ∈ B
      · rw [if_pos hk] at hf
        (repeat (first
    | (apply is_ok; (case hw => simp [hH, h, h2, e2, hf]); (case he => simp [hH, h, h2, e2, hf]; exact is_rfl))
    | (apply op_no; (case hw => simp [hH, h, h2, e2, hf]))
    | refine op_nil ?_ | refine next_normal ?_ | refine go_seq ?_ | refine go_region ?_ | refine go_skip ?_ | refine go_block ?_ | refine inb_normal ?_
    | (apply go_yes; (case hc => simp [hH, h, h2, e2, hf])) | (apply go_no; (case hc => simp [hH, h, h2, e2, hf]))
    | refine go_exit ?_ | refine next_exit ?_ | refine inb_here ?_ | refine inb_past (by decide) ?_ | refine go_ret ?_ | refine next_ret ?_ | refine inb_ret ?_))
        (apply ends_ok; (case h1 => simp; exact is_rfl); (case h2 => simp; exact is_rfl))
        simp [h, h2, hk]
      · rw [if_neg hk] at hf
        (repeat (first
    | (apply is_ok; (case hw => simp [hH, h, h2, e2, hf]); (case he => simp [hH, h, h2, e2, hf]; exact is_rfl))
    | (apply op_no; (case hw => simp [hH, h, h2, e2, hf]))
    | refine op_nil ?_ | refine next_normal ?_ | refine go_seq ?_ | refine go_region ?_ | refine go_skip ?_ | refine go_block ?_ | refine inb_normal ?_
    | (apply go_yes; (case hc => simp [hH, h, h2, e2, hf])) | (apply go_no; (case hc => simp [hH, h, h2, e2, hf]))
    | refine go_exit ?_ | refine next_exit ?_ | refine inb_here ?_ | refine inb_past (by decide) ?_ | refine go_ret ?_ | refine next_ret ?_ | refine inb_ret ?_))
        (apply ends_ok; (case h1 => simp; exact is_rfl); (case h2 => simp; exact is_rfl))
        simp [h, h2, hk]
  · (repeat (first
    | (apply is_ok; (case hw => simp [hH, h]); (case he => simp [hH, h]; exact is_rfl))
    | (apply op_no; (case hw => simp [hH, h]))
    | refine op_nil ?_ | refine next_normal ?_ | refine go_seq ?_ | refine go_region ?_ | refine go_skip ?_ | refine go_block ?_ | refine inb_normal ?_
    | (apply go_yes; (case hc => simp [hH, h])) | (apply go_no; (case hc => simp [hH, h]))
    | refine go_exit ?_ | refine next_exit ?_ | refine inb_here ?_ | refine inb_past (by decide) ?_ | refine go_ret ?_ | refine next_ret ?_ | refine inb_ret ?_))
    (apply ends_ok; (case h1 => simp; exact is_rfl); (case h2 => simp; exact is_rfl))
    simp [h]

end Go.Abs
