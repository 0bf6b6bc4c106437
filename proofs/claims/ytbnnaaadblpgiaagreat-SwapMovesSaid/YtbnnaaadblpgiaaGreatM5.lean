/- Proved here: what functions of the program compute, over the evaluator. No condition but those that each theorem states. -/
import Derived.Test.YtbnnaaadblpgiaaGreatM3
import Derived.Test.YtbnnaaadblpgiaaGreatM4
import Derived.Test.YtbnnaaadblpgiaaGreatM2
namespace Go.Abs
open Go.Proofs
set_option maxRecDepth 100000
set_option linter.unusedSimpArgs false

def wornK (B : List Int) : List Int := B.foldl (fun ks n => if n ∈ ks then ks else ks ++ [n]) []
theorem wornK_take {B : List Int} {i : Nat} (h : i < B.length) : wornK (B.take (i + 1)) = if B[i] ∈ wornK (B.take i) then wornK (B.take i) else wornK (B.take i) ++ [B[i]] := by
  unfold wornK
  rw [List.take_succ_eq_append_getElem h, List.foldl_append]
  rfl
theorem foldl_mem (k : Int) : ∀ (B ks : List Int), k ∈ B.foldl (fun ks n => if n ∈ ks then ks else ks ++ [n]) ks ↔ k ∈ ks ∨ k ∈ B
  | [], ks => by simp
  | b :: B, ks => by
    rw [List.foldl_cons, foldl_mem k B]
    by_cases h : b ∈ ks
    · rw [if_pos h]
      constructor
      · rintro (h1 | h1)
        · exact .inl h1
        · exact .inr (List.mem_cons_of_mem _ h1)
      · rintro (h1 | h1)
        · exact .inl h1
        · rcases List.mem_cons.1 h1 with rfl | h1
          · exact .inl h
          · exact .inr h1
    · rw [if_neg h]; simp [or_assoc]
theorem mem_worn {k : Int} {B : List Int} : k ∈ wornK B ↔ k ∈ B := by unfold wornK; rw [foldl_mem]; simp

theorem findK_ints (k : Int) (v : V) : ∀ (ks : List Int), findK (.int .i64 k) (ints ks) (List.replicate ks.length v) = some (if k ∈ ks then some v else none)
  | [] => by simp [findK]
  | c :: ks => by
    simp only [List.map_cons, List.length_cons, List.replicate_succ, findK, sameKey]
    by_cases h : k = c
    · subst h; simp
    · have : (k == c) = false := by simpa using h
      simp only [if_true, this]
      rw [findK_ints k v ks]
      simp [h]
theorem findK_worn (k : Int) (v : V) (B : List Int) : findK (.int .i64 k) (ints (wornK B)) (List.replicate (wornK B).length v) = some (if k ∈ B then some v else none) := by
  rw [findK_ints]
  simp only [mem_worn]
theorem setK_ints (k : Int) (v : V) : ∀ (ks : List Int), setK (.int .i64 k) v (ints ks) (List.replicate ks.length v) = List.replicate ks.length v
  | [] => by simp [setK]
  | c :: ks => by
    simp only [List.map_cons, List.length_cons, List.replicate_succ, setK, sameKey]
    by_cases h : k = c
    · subst h; simp
    · have : (k == c) = false := by simpa using h
      simp only [if_true, this]
      rw [setK_ints k v ks]

abbrev wornV (B : List Int) : V := .mapr (ints (wornK B)) (List.replicate (wornK B).length (.bool true))

theorem worn_eq (S : List (List UInt8)) (B : List Int) (hB : B.length ≤ maxLen) : bodyW DC 57 [drv S B] [] = some (.map 0, [.map true (ints (wornK B)) (List.replicate (wornK B).length (.bool true))]) := by
  unfold maxLen at hB
  (refine gives_iff ?_; refine go_func Tryz.f57 rfl rfl (by simp [Tryz.f57]) ?_; dsimp only [codeL, Tryz.f57, scL, sopsL, guardL, dstAt, loopKey])
  (repeat (first
    | (apply is_ok; (case hw => simp); (case he => simp; exact is_rfl))
    | (apply op_no; (case hw => simp))
    | refine op_nil ?_ | refine next_normal ?_ | refine go_seq ?_ | refine go_region ?_ | refine go_skip ?_ | refine go_block ?_ | refine inb_normal ?_
    | (apply go_yes; (case hc => simp)) | (apply go_no; (case hc => simp))
    | refine go_exit ?_ | refine next_exit ?_ | refine inb_here ?_ | refine inb_past (by decide) ?_ | refine go_ret ?_ | refine next_ret ?_ | refine inb_ret ?_))
  refine go_count B.length (fun i => [(3, .map 0), (8, .sl (ints B)), (9, .int .i64 B.length), (10, .int .i64 i)]) (fun i => [.map true (ints (wornK (B.take i))) (List.replicate (wornK (B.take i)).length (.bool true))]) (fun _ => True) (by simp [wornK]) trivial fun i hi _ => ?_
  by_cases hlt : i < B.length
  · have hw : IntKind.i64.wrap ((i : Int) + 1) = (i : Int) + 1 := wrap_id (by omega) (by omega)
    have hf := findK_ints B[i] (.bool true) (wornK (B.take i))
    have hs := setK_ints B[i] (.bool true) (wornK (B.take i))
    by_cases hm : B[i] ∈ wornK (B.take i)
    · rw [if_pos hm] at hf
      (repeat (first
    | (apply is_ok; (case hw => simp [hlt, hf, hs]); (case he => simp [hlt, hf, hs]; exact is_rfl))
    | (apply op_no; (case hw => simp [hlt, hf, hs]))
    | refine op_nil ?_ | refine next_normal ?_ | refine go_seq ?_ | refine go_region ?_ | refine go_skip ?_ | refine go_block ?_ | refine inb_normal ?_
    | (apply go_yes; (case hc => simp [hlt, hf, hs])) | (apply go_no; (case hc => simp [hlt, hf, hs]))
    | refine go_exit ?_ | refine next_exit ?_ | refine inb_here ?_ | refine inb_past (by decide) ?_ | refine go_ret ?_ | refine next_ret ?_ | refine inb_ret ?_))
      exact ⟨hlt, by simp [hw, wornK_take hlt, hm], trivial⟩
    · rw [if_neg hm] at hf
      (repeat (first
    | (apply is_ok; (case hw => simp [hlt, hf, hs]); (case he => simp [hlt, hf, hs]; exact is_rfl))
    | (apply op_no; (case hw => simp [hlt, hf, hs]))
    | refine op_nil ?_ | refine next_normal ?_ | refine go_seq ?_ | refine go_region ?_ | refine go_skip ?_ | refine go_block ?_ | refine inb_normal ?_
    | (apply go_yes; (case hc => simp [hlt, hf, hs])) | (apply go_no; (case hc => simp [hlt, hf, hs]))
    | refine go_exit ?_ | refine next_exit ?_ | refine inb_here ?_ | refine inb_past (by decide) ?_ | refine go_ret ?_ | refine next_ret ?_ | refine inb_ret ?_))
      exact ⟨hlt, by simp [hw, wornK_take hlt, hm, List.replicate_succ'], trivial⟩
  · have : i = B.length := by omega
    subst this
    rw [List.take_length]
    (repeat (first
    | (apply is_ok; (case hw => simp); (case he => simp; exact is_rfl))
    | (apply op_no; (case hw => simp))
    | refine op_nil ?_ | refine next_normal ?_ | refine go_seq ?_ | refine go_region ?_ | refine go_skip ?_ | refine go_block ?_ | refine inb_normal ?_
    | (apply go_yes; (case hc => simp)) | (apply go_no; (case hc => simp))
    | refine go_exit ?_ | refine next_exit ?_ | refine inb_here ?_ | refine inb_past (by decide) ?_ | refine go_ret ?_ | refine next_ret ?_ | refine inb_ret ?_))
    (apply ends_ok; (case h1 => simp; exact is_rfl); (case h2 => simp; exact is_rfl))
    simp

def readS (S : List (List UInt8)) (B : List Int) (k : Int) : List UInt8 × Int := if 0 ≤ k ∧ k < S.length then if k ∈ B then ([], 21) else (S.getD k.toNat [], 0) else ([], 2)

theorem Read_eq (S : List (List UInt8)) (B : List Int) (hB : B.length ≤ maxLen) (k : Int) : bodyW DC 31 [drv S B, .int .i64 k] [] = some (.tuple [.str (readS S B k).1, .int .i64 (readS S B k).2], []) := by
  have hH := has_eq S B k
  have hW := worn_eq S B hB
  have hf := findK_worn k (.bool true) B
  unfold readS
  (refine gives_iff ?_; refine go_func Tryz.f31 rfl rfl (by simp [Tryz.f31]) ?_; dsimp only [codeL, Tryz.f31, scL, sopsL, guardL, dstAt, loopKey])
  by_cases h : 0 ≤ k ∧ k < S.length
  · have hl : k.toNat < S.length := by omega
    by_cases hk : k ∈ B
    · rw [if_pos hk] at hf
      (repeat (first
    | (apply is_ok; (case hw => simp [hH, hW, hf, h]); (case he => simp [hH, hW, hf, h]; exact is_rfl))
    | (apply op_no; (case hw => simp [hH, hW, hf, h]))
    | refine op_nil ?_ | refine next_normal ?_ | refine go_seq ?_ | refine go_region ?_ | refine go_skip ?_ | refine go_block ?_ | refine inb_normal ?_
    | (apply go_yes; (case hc => simp [hH, hW, hf, h])) | (apply go_no; (case hc => simp [hH, hW, hf, h]))
    | refine go_exit ?_ | refine next_exit ?_ | refine inb_here ?_ | refine inb_past (by decide) ?_ | refine go_ret ?_ | refine next_ret ?_ | refine inb_ret ?_))
      (apply ends_ok; (case h1 => simp; exact is_rfl); (case h2 => simp; exact is_rfl))
      simp [h, hk]
    · rw [if_neg hk] at hf
      (repeat (first
    | (apply is_ok; (case hw => simp [hH, hW, hf, h, hl]); (case he => simp [hH, hW, hf, h, hl]; exact is_rfl))
    | (apply op_no; (case hw => simp [hH, hW, hf, h, hl]))
    | refine op_nil ?_ | refine next_normal ?_ | refine go_seq ?_ | refine go_region ?_ | refine go_skip ?_ | refine go_block ?_ | refine inb_normal ?_
    | (apply go_yes; (case hc => simp [hH, hW, hf, h, hl])) | (apply go_no; (case hc => simp [hH, hW, hf, h, hl]))
    | refine go_exit ?_ | refine next_exit ?_ | refine inb_here ?_ | refine inb_past (by decide) ?_ | refine go_ret ?_ | refine next_ret ?_ | refine inb_ret ?_))
      (apply ends_ok; (case h1 => simp; exact is_rfl); (case h2 => simp; exact is_rfl))
      simp [h, hk, hl]
  · (repeat (first
    | (apply is_ok; (case hw => simp [hH, h]); (case he => simp [hH, h]; exact is_rfl))
    | (apply op_no; (case hw => simp [hH, h]))
    | refine op_nil ?_ | refine next_normal ?_ | refine go_seq ?_ | refine go_region ?_ | refine go_skip ?_ | refine go_block ?_ | refine inb_normal ?_
    | (apply go_yes; (case hc => simp [hH, h])) | (apply go_no; (case hc => simp [hH, h]))
    | refine go_exit ?_ | refine next_exit ?_ | refine inb_here ?_ | refine inb_past (by decide) ?_ | refine go_ret ?_ | refine next_ret ?_ | refine inb_ret ?_))
    (apply ends_ok; (case h1 => simp; exact is_rfl); (case h2 => simp; exact is_rfl))
    simp [h]

theorem ReadR_eq (S : List (List UInt8)) (B : List Int) (hB : B.length ≤ maxLen) (k : Int) : bodyW DC 38 [drv S B, .int .i64 k] [] = some (.tuple [.str (readS S B k).1, .int .i64 (readS S B k).2], []) := by
  have hI := Isbad_eq S B hB k
  unfold readS
  (refine gives_iff ?_; refine go_func Tryz.f38 rfl rfl (by simp [Tryz.f38]) ?_; dsimp only [codeL, Tryz.f38, scL, sopsL, guardL, dstAt, loopKey])
  by_cases h : 0 ≤ k ∧ k < S.length
  · have hl : k.toNat < S.length := by omega
    have h1 : ¬ (k < 0) := by omega
    have h2 : ¬ ((S.length : Int) ≤ k) := by omega
    by_cases hk : k ∈ B
    · (repeat (first
    | (apply is_ok; (case hw => simp [hI, h, h1, h2, hk]); (case he => simp [hI, h, h1, h2, hk]; exact is_rfl))
    | (apply op_no; (case hw => simp [hI, h, h1, h2, hk]))
    | refine op_nil ?_ | refine next_normal ?_ | refine go_seq ?_ | refine go_region ?_ | refine go_skip ?_ | refine go_block ?_ | refine inb_normal ?_
    | (apply go_yes; (case hc => simp [hI, h, h1, h2, hk])) | (apply go_no; (case hc => simp [hI, h, h1, h2, hk]))
    | refine go_exit ?_ | refine next_exit ?_ | refine inb_here ?_ | refine inb_past (by decide) ?_ | refine go_ret ?_ | refine next_ret ?_ | refine inb_ret ?_))
      (apply ends_ok; (case h1 => simp; exact is_rfl); (case h2 => simp; exact is_rfl))
      simp [h, hk]
    · (repeat (first
    | (apply is_ok; (case hw => simp [hI, h, h1, h2, hk, hl]); (case he => simp [hI, h, h1, h2, hk, hl]; exact is_rfl))
    | (apply op_no; (case hw => simp [hI, h, h1, h2, hk, hl]))
    | refine op_nil ?_ | refine next_normal ?_ | refine go_seq ?_ | refine go_region ?_ | refine go_skip ?_ | refine go_block ?_ | refine inb_normal ?_
    | (apply go_yes; (case hc => simp [hI, h, h1, h2, hk, hl])) | (apply go_no; (case hc => simp [hI, h, h1, h2, hk, hl]))
    | refine go_exit ?_ | refine next_exit ?_ | refine inb_here ?_ | refine inb_past (by decide) ?_ | refine go_ret ?_ | refine next_ret ?_ | refine inb_ret ?_))
      (apply ends_ok; (case h1 => simp; exact is_rfl); (case h2 => simp; exact is_rfl))
      simp [h, hk, hl]
  · by_cases h1 : k < 0
    · (repeat (first
    | (apply is_ok; (case hw => simp [h1]); (case he => simp [h1]; exact is_rfl))
    | (apply op_no; (case hw => simp [h1]))
    | refine op_nil ?_ | refine next_normal ?_ | refine go_seq ?_ | refine go_region ?_ | refine go_skip ?_ | refine go_block ?_ | refine inb_normal ?_
    | (apply go_yes; (case hc => simp [h1])) | (apply go_no; (case hc => simp [h1]))
    | refine go_exit ?_ | refine next_exit ?_ | refine inb_here ?_ | refine inb_past (by decide) ?_ | refine go_ret ?_ | refine next_ret ?_ | refine inb_ret ?_))
      (apply ends_ok; (case h1 => simp; exact is_rfl); (case h2 => simp; exact is_rfl))
      simp [h]
    · have h2 : ((S.length : Int) ≤ k) := by omega
      (repeat (first
    | (apply is_ok; (case hw => simp [h1, h2]); (case he => simp [h1, h2]; exact is_rfl))
    | (apply op_no; (case hw => simp [h1, h2]))
    | refine op_nil ?_ | refine next_normal ?_ | refine go_seq ?_ | refine go_region ?_ | refine go_skip ?_ | refine go_block ?_ | refine inb_normal ?_
    | (apply go_yes; (case hc => simp [h1, h2])) | (apply go_no; (case hc => simp [h1, h2]))
    | refine go_exit ?_ | refine next_exit ?_ | refine inb_here ?_ | refine inb_past (by decide) ?_ | refine go_ret ?_ | refine next_ret ?_ | refine inb_ret ?_))
      (apply ends_ok; (case h1 => simp; exact is_rfl); (case h2 => simp; exact is_rfl))
      simp [h]

abbrev wrV (w : Int × List UInt8) : V := .agg [.int .i64 w.1, .str w.2]
def faultI (n : Nat) (B : List Int) (w : Int × List UInt8) : Int := if 0 ≤ w.1 ∧ w.1 < n then if 128 < w.2.length then 7 else if w.1 ∈ B then 21 else 0 else 2

theorem fault_eq (S : List (List UInt8)) (B : List Int) (w : Int × List UInt8) : bodyW DC 58 [drv S B, wornV B, wrV w] [] = some (.int .i64 (faultI S.length B w), []) := by
  have hH := has_eq S B w.1
  have hf := findK_worn w.1 (.bool true) B
  unfold faultI
  (refine gives_iff ?_; refine go_func Tryz.f58 rfl rfl (by simp [Tryz.f58]) ?_; dsimp only [codeL, Tryz.f58, scL, sopsL, guardL, dstAt, loopKey])
  by_cases h : 0 ≤ w.1 ∧ w.1 < S.length
  · by_cases h2 : 128 < w.2.length
    · have e2 : (128 : Int) < w.2.length := by omega
      (repeat (first
    | (apply is_ok; (case hw => simp [hH, h, h2, e2]); (case he => simp [hH, h, h2, e2]; exact is_rfl))
    | (apply op_no; (case hw => simp [hH, h, h2, e2]))
    | refine op_nil ?_ | refine next_normal ?_ | refine go_seq ?_ | refine go_region ?_ | refine go_skip ?_ | refine go_block ?_ | refine inb_normal ?_
    | (apply go_yes; (case hc => simp [hH, h, h2, e2])) | (apply go_no; (case hc => simp [hH, h, h2, e2]))
    | refine go_exit ?_ | refine next_exit ?_ | refine inb_here ?_ | refine inb_past (by decide) ?_ | refine go_ret ?_ | refine next_ret ?_ | refine inb_ret ?_))
      (apply ends_ok; (case h1 => simp; exact is_rfl); (case h2 => simp; exact is_rfl))
      simp [h, h2]
    · have e2 : ¬ ((128 : Int) < w.2.length) := by omega
      by_cases hk : w.1 ∈ B
      · rw [if_pos hk] at hf
        (repeat (first
    | (apply is_ok; (case hw => simp [hH, h, h2, e2, hf]); (case he => simp [hH, h, h2, e2, hf]; exact is_rfl))
    | (apply op_no; (case hw => simp [hH, h, h2, e2, hf]))
    | refine op_nil ?_ | refine next_normal ?_ | refine go_seq ?_ | refine go_region ?_ | refine go_skip ?_ | refine go_block ?_ | refine inb_normal ?_
    | (apply go_yes; (case hc => simp [hH, h, h2, e2, hf])) | (apply go_no; (case hc => simp [hH, h, h2, e2, hf]))
    | refine go_exit ?_ | refine next_exit ?_ | refine inb_here ?_ | refine inb_past (by decide) ?_ | refine go_ret ?_ | refine next_ret ?_ | refine inb_ret ?_))
        (apply ends_ok; (case h1 => simp; exact is_rfl); (case h2 => simp; exact is_rfl))
        simp [h, h2, hk]
      · rw [if_neg hk] at hf
        (repeat (first
    | (apply is_ok; (case hw => simp [hH, h, h2, e2, hf]); (case he => simp [hH, h, h2, e2, hf]; exact is_rfl))
    | (apply op_no; (case hw => simp [hH, h, h2, e2, hf]))
    | refine op_nil ?_ | refine next_normal ?_ | refine go_seq ?_ | refine go_region ?_ | refine go_skip ?_ | refine go_block ?_ | refine inb_normal ?_
    | (apply go_yes; (case hc => simp [hH, h, h2, e2, hf])) | (apply go_no; (case hc => simp [hH, h, h2, e2, hf]))
    | refine go_exit ?_ | refine next_exit ?_ | refine inb_here ?_ | refine inb_past (by decide) ?_ | refine go_ret ?_ | refine next_ret ?_ | refine inb_ret ?_))
        (apply ends_ok; (case h1 => simp; exact is_rfl); (case h2 => simp; exact is_rfl))
        simp [h, h2, hk]
  · (repeat (first
    | (apply is_ok; (case hw => simp [hH, h]); (case he => simp [hH, h]; exact is_rfl))
    | (apply op_no; (case hw => simp [hH, h]))
    | refine op_nil ?_ | refine next_normal ?_ | refine go_seq ?_ | refine go_region ?_ | refine go_skip ?_ | refine go_block ?_ | refine inb_normal ?_
    | (apply go_yes; (case hc => simp [hH, h])) | (apply go_no; (case hc => simp [hH, h]))
    | refine go_exit ?_ | refine next_exit ?_ | refine inb_here ?_ | refine inb_past (by decide) ?_ | refine go_ret ?_ | refine next_ret ?_ | refine inb_ret ?_))
    (apply ends_ok; (case h1 => simp; exact is_rfl); (case h2 => simp; exact is_rfl))
    simp [h]

end Go.Abs

namespace Go.Abs
open Go.Proofs
set_option maxRecDepth 100000
set_option linter.unusedSimpArgs false

theorem copied_eq (S : List (List UInt8)) (B : List Int) (hS : S.length ≤ 1000000) (hB : B.length ≤ 1000000) : bodyW DC 56 [drv S B] [] = some (.agg [.own 0 S.length 0 S.length, .own 1 B.length 0 B.length], [.dat true 1 (strs S), .dat true 1 (ints B)]) := by
  have r1 : S.length * 16 ≤ room := by unfold room; omega
  have r2 : S.length ≤ room := by unfold room; omega
  have r3 : B.length * 8 ≤ room := by unfold room; omega
  have r4 : B.length ≤ room := by unfold room; omega
  (refine gives_iff ?_; refine go_func Tryz.f56 rfl rfl (by simp [Tryz.f56]) ?_; dsimp only [codeL, Tryz.f56, scL, sopsL, guardL, dstAt, loopKey])
  (repeat (first
    | (apply is_ok; (case hw => simp [cloneX, r1, r2, r3, r4]); (case he => simp [cloneX, r1, r2, r3, r4]; exact is_rfl))
    | (apply op_no; (case hw => simp [cloneX, r1, r2, r3, r4]))
    | refine op_nil ?_ | refine next_normal ?_ | refine go_seq ?_ | refine go_region ?_ | refine go_skip ?_ | refine go_block ?_ | refine inb_normal ?_
    | (apply go_yes; (case hc => simp [cloneX, r1, r2, r3, r4])) | (apply go_no; (case hc => simp [cloneX, r1, r2, r3, r4]))
    | refine go_exit ?_ | refine next_exit ?_ | refine inb_here ?_ | refine inb_past (by decide) ?_ | refine go_ret ?_ | refine next_ret ?_ | refine inb_ret ?_))
  (apply ends_ok; (case h1 => simp; exact is_rfl); (case h2 => simp; exact is_rfl))
  simp
end Go.Abs

namespace Go.Abs
open Go.Proofs
set_option maxRecDepth 100000
set_option linter.unusedSimpArgs false

def putS (S : List (List UInt8)) (w : Int × List UInt8) : List (List UInt8) := S.set w.1.toNat (w.2 ++ List.replicate (128 - w.2.length) 0)

theorem faultI_zero {n : Nat} {B : List Int} {w : Int × List UInt8} : faultI n B w = 0 ↔ (0 ≤ w.1 ∧ w.1 < n) ∧ w.2.length ≤ 128 ∧ w.1 ∉ B := by
  unfold faultI
  by_cases h : 0 ≤ w.1 ∧ w.1 < n
  · by_cases h2 : 128 < w.2.length
    · simp [h, h2]; omega
    · by_cases h3 : w.1 ∈ B
      · simp [h, h2, h3]
      · simp [h, h2, h3]; omega
  · simp [h]

theorem WriteR_ok (S : List (List UInt8)) (B : List Int) (hS : S.length ≤ 1000000) (hB : B.length ≤ maxLen) (w : Int × List UInt8) (h : faultI S.length B w = 0) :
    bodyW DC 28 [drv S B, .int .i64 w.1, .str w.2] [] = some (.tuple [.agg [.own 0 S.length 0 S.length, .sl (ints B)], .int .i64 0], [.dat true 1 (strs (putS S w))]) := by
  obtain ⟨⟨h1, h2⟩, h3, h4⟩ := faultI_zero.1 h
  have hI := Isbad_eq S B hB w.1
  have hZ := zeros_eq (128 - w.2.length) (by omega)
  have e1 : ¬ (w.1 < 0) := by omega
  have e2 : ¬ ((S.length : Int) ≤ w.1) := by omega
  have e3 : ¬ ((128 : Int) < w.2.length) := by omega
  have e4 : IntKind.i64.wrap (128 - (w.2.length : Int)) = ((128 - w.2.length : Nat) : Int) := by rw [wrap_id (by omega) (by omega)]; omega
  have r1 : S.length * 16 ≤ room := by unfold room; omega
  have r2 : S.length ≤ room := by unfold room; omega
  have r3 : w.2.length + (128 - w.2.length) ≤ room := by unfold room; omega
  have hl : w.1.toNat < S.length := by omega
  (refine gives_iff ?_; refine go_func Tryz.f28 rfl rfl (by simp [Tryz.f28]) ?_; dsimp only [codeL, Tryz.f28, scL, sopsL, guardL, dstAt, loopKey])
  (repeat (first
    | (apply is_ok; (case hw => simp [hI, hZ, e1, e2, e3, e4, r1, r2, r3, hl, h1, h2, h4]); (case he => simp [hI, hZ, e1, e2, e3, e4, r1, r2, r3, hl, h1, h2, h4]; exact is_rfl))
    | (apply op_no; (case hw => simp [hI, hZ, e1, e2, e3, e4, r1, r2, r3, hl, h1, h2, h4]))
    | refine op_nil ?_ | refine next_normal ?_ | refine go_seq ?_ | refine go_region ?_ | refine go_skip ?_ | refine go_block ?_ | refine inb_normal ?_
    | (apply go_yes; (case hc => simp [hI, hZ, e1, e2, e3, e4, r1, r2, r3, hl, h1, h2, h4])) | (apply go_no; (case hc => simp [hI, hZ, e1, e2, e3, e4, r1, r2, r3, hl, h1, h2, h4]))
    | refine go_exit ?_ | refine next_exit ?_ | refine inb_here ?_ | refine inb_past (by decide) ?_ | refine go_ret ?_ | refine next_ret ?_ | refine inb_ret ?_))
  (apply ends_ok; (case h1 => simp; exact is_rfl); (case h2 => simp; exact is_rfl))
  simp [putS, List.map_set]

theorem WriteR_no (S : List (List UInt8)) (B : List Int) (hB : B.length ≤ maxLen) (w : Int × List UInt8) (h : faultI S.length B w ≠ 0) :
    bodyW DC 28 [drv S B, .int .i64 w.1, .str w.2] [] = some (.tuple [.agg [.nils, .nils], .int .i64 (faultI S.length B w)], []) := by
  have hI := Isbad_eq S B hB w.1
  unfold faultI at h ⊢
  (refine gives_iff ?_; refine go_func Tryz.f28 rfl rfl (by simp [Tryz.f28]) ?_; dsimp only [codeL, Tryz.f28, scL, sopsL, guardL, dstAt, loopKey])
  by_cases h1 : w.1 < 0
  · (repeat (first
    | (apply is_ok; (case hw => simp [h1]); (case he => simp [h1]; exact is_rfl))
    | (apply op_no; (case hw => simp [h1]))
    | refine op_nil ?_ | refine next_normal ?_ | refine go_seq ?_ | refine go_region ?_ | refine go_skip ?_ | refine go_block ?_ | refine inb_normal ?_
    | (apply go_yes; (case hc => simp [h1])) | (apply go_no; (case hc => simp [h1]))
    | refine go_exit ?_ | refine next_exit ?_ | refine inb_here ?_ | refine inb_past (by decide) ?_ | refine go_ret ?_ | refine next_ret ?_ | refine inb_ret ?_))
    (apply ends_ok; (case h1 => simp; exact is_rfl); (case h2 => simp; exact is_rfl))
    have : ¬ (0 ≤ w.1) := by omega
    simp [this]
  by_cases h2 : (S.length : Int) ≤ w.1
  · (repeat (first
    | (apply is_ok; (case hw => simp [h1, h2]); (case he => simp [h1, h2]; exact is_rfl))
    | (apply op_no; (case hw => simp [h1, h2]))
    | refine op_nil ?_ | refine next_normal ?_ | refine go_seq ?_ | refine go_region ?_ | refine go_skip ?_ | refine go_block ?_ | refine inb_normal ?_
    | (apply go_yes; (case hc => simp [h1, h2])) | (apply go_no; (case hc => simp [h1, h2]))
    | refine go_exit ?_ | refine next_exit ?_ | refine inb_here ?_ | refine inb_past (by decide) ?_ | refine go_ret ?_ | refine next_ret ?_ | refine inb_ret ?_))
    (apply ends_ok; (case h1 => simp; exact is_rfl); (case h2 => simp; exact is_rfl))
    have : ¬ (w.1 < S.length) := by omega
    simp [this]
  have h0 : 0 ≤ w.1 := by omega
  have h0' : w.1 < S.length := by omega
  by_cases h3 : 128 < w.2.length
  · have e3 : ((128 : Int) < w.2.length) := by omega
    (repeat (first
    | (apply is_ok; (case hw => simp [h1, h2, h3, e3]); (case he => simp [h1, h2, h3, e3]; exact is_rfl))
    | (apply op_no; (case hw => simp [h1, h2, h3, e3]))
    | refine op_nil ?_ | refine next_normal ?_ | refine go_seq ?_ | refine go_region ?_ | refine go_skip ?_ | refine go_block ?_ | refine inb_normal ?_
    | (apply go_yes; (case hc => simp [h1, h2, h3, e3])) | (apply go_no; (case hc => simp [h1, h2, h3, e3]))
    | refine go_exit ?_ | refine next_exit ?_ | refine inb_here ?_ | refine inb_past (by decide) ?_ | refine go_ret ?_ | refine next_ret ?_ | refine inb_ret ?_))
    (apply ends_ok; (case h1 => simp; exact is_rfl); (case h2 => simp; exact is_rfl))
    simp [h0, h0', h3]
  have e3 : ¬ ((128 : Int) < w.2.length) := by omega
  by_cases h4 : w.1 ∈ B
  · (repeat (first
    | (apply is_ok; (case hw => simp [h1, h2, h3, e3, h4, hI]); (case he => simp [h1, h2, h3, e3, h4, hI]; exact is_rfl))
    | (apply op_no; (case hw => simp [h1, h2, h3, e3, h4, hI]))
    | refine op_nil ?_ | refine next_normal ?_ | refine go_seq ?_ | refine go_region ?_ | refine go_skip ?_ | refine go_block ?_ | refine inb_normal ?_
    | (apply go_yes; (case hc => simp [h1, h2, h3, e3, h4, hI])) | (apply go_no; (case hc => simp [h1, h2, h3, e3, h4, hI]))
    | refine go_exit ?_ | refine next_exit ?_ | refine inb_here ?_ | refine inb_past (by decide) ?_ | refine go_ret ?_ | refine next_ret ?_ | refine inb_ret ?_))
    (apply ends_ok; (case h1 => simp; exact is_rfl); (case h2 => simp; exact is_rfl))
    simp [h0, h0', h3, h4]
  · simp [h0, h0', h3, h4] at h

def applyS (B : List Int) (fuse : Int) : List (List UInt8) → Nat → List (Int × List UInt8) → List (List UInt8) × Nat × Int
  | S, i, [] => (S, i, 0)
  | S, i, w :: r => if (i : Int) = fuse then (S, i, 0) else if faultI S.length B w = 0 then applyS B fuse (putS S w) (i + 1) r else (S, i, faultI S.length B w)

theorem repeatL_zero (n : Nat) : Lib.repeatL [0] n = List.replicate n (0 : UInt8) := by
  induction n with
  | zero => rfl
  | succ n ih => show [0] ++ Lib.repeatL [0] n = _; rw [ih]; rfl

theorem Apply_eq (S : List (List UInt8)) (B : List Int) (hS : S.length ≤ 1000000) (hB : B.length ≤ 1000000) (l : List (Int × List UInt8)) (hl : l.length ≤ 1000000) (fuse : Int) :
    bodyW DC 24 [drv S B, .sl (l.map wrV), .int .i64 fuse] [] =
      some (.tuple [.agg [.own 0 S.length 0 S.length, .own 1 B.length 0 B.length], .int .i64 (applyS B fuse S 0 l).2.1, .int .i64 (applyS B fuse S 0 l).2.2], [.dat true 1 (strs (applyS B fuse S 0 l).1), .dat true 1 (ints B)]) := by
  have hC := copied_eq S B hS hB
  have hW := worn_eq S B (by unfold maxLen; omega)
  generalize hR : applyS B fuse S 0 l = R
  (refine gives_iff ?_; refine go_func Tryz.f24 rfl rfl (by simp [Tryz.f24]) ?_; dsimp only [codeL, Tryz.f24, scL, sopsL, guardL, dstAt, loopKey])
  (repeat (first
    | (apply is_ok; (case hw => simp [hC, hW]); (case he => simp [hC, hW]; exact is_rfl))
    | (apply op_no; (case hw => simp [hC, hW]))
    | refine op_nil ?_ | refine next_normal ?_ | refine go_seq ?_ | refine go_region ?_ | refine go_skip ?_ | refine go_block ?_ | refine inb_normal ?_
    | (apply go_yes; (case hc => simp [hC, hW])) | (apply go_no; (case hc => simp [hC, hW]))
    | refine go_exit ?_ | refine next_exit ?_ | refine inb_here ?_ | refine inb_past (by decide) ?_ | refine go_ret ?_ | refine next_ret ?_ | refine inb_ret ?_))
  refine go_while (σ := Nat × List (List UInt8)) (fun s => [(1, .sl (l.map wrV)), (2, .int .i64 fuse), (3, .ptr 0 1 0 0), (6, .ptr 3 1 0 0), (9, .map 6), (17, .sl (l.map wrV)), (18, .int .i64 l.length), (19, .int .i64 s.1)])
    (fun s => [.box (.agg [.own 1 S.length 0 S.length, .own 2 B.length 0 B.length]), .dat true 1 (strs s.2), .dat true 1 (ints B), .box (.agg [.own 4 0 0 0, .own 5 0 0 0]), .dat true 1 [], .dat true 1 [], .map true (ints (wornK B)) (List.replicate (wornK B).length (.bool true))])
    (fun s => s.1 ≤ l.length ∧ s.2.length = S.length ∧ applyS B fuse s.2 s.1 (l.drop s.1) = R) (fun s => l.length - s.1) (0, S) (by simp) (by simpa using hR) fun ⟨i, T⟩ ⟨hi, hT, hA⟩ => ?_
  simp only at hi hT hA ⊢
  by_cases hlt : i < l.length
  · have hw : IntKind.i64.wrap ((i : Int) + 1) = (i : Int) + 1 := wrap_id (by omega) (by omega)
    have hF := fault_eq T B l[i]
    rw [List.drop_eq_getElem_cons hlt, applyS] at hA
    by_cases hf : (i : Int) = fuse
    · subst hf
      rw [if_pos rfl] at hA
      (repeat (first
    | (apply is_ok; (case hw => simp [hlt]); (case he => simp [hlt]; exact is_rfl))
    | (apply op_no; (case hw => simp [hlt]))
    | refine op_nil ?_ | refine next_normal ?_ | refine go_seq ?_ | refine go_region ?_ | refine go_skip ?_ | refine go_block ?_ | refine inb_normal ?_
    | (apply go_yes; (case hc => simp [hlt])) | (apply go_no; (case hc => simp [hlt]))
    | refine go_exit ?_ | refine next_exit ?_ | refine inb_here ?_ | refine inb_past (by decide) ?_ | refine go_ret ?_ | refine next_ret ?_ | refine inb_ret ?_))
      (apply ends_ok; (case h1 => simp; exact is_rfl); (case h2 => simp; exact is_rfl))
      simp [← hA, hT]
    · rw [if_neg hf] at hA
      by_cases hz : faultI T.length B l[i] = 0
      · rw [if_pos hz] at hA
        obtain ⟨⟨h1, h2⟩, h3, h4⟩ := faultI_zero.1 hz
        have e4 : IntKind.i64.wrap (128 - (l[i].2.length : Int)) = ((128 - l[i].2.length : Nat) : Int) := by rw [wrap_id (by omega) (by omega)]; omega
        have e5 : 128 - l[i].2.length ≤ 140737488355328 := by omega
        have e6 : ((128 - l[i].2.length : Nat) : Int) ≤ 9223372036854775807 := by omega
        have r3 : l[i].2.length + (128 - l[i].2.length) ≤ room := by unfold room; omega
        have hl' : l[i].1.toNat < T.length := by omega
        have hl'' : l[i].1.toNat < S.length := by omega
        have hl3 : l[i].1 < S.length := by omega
        rw [hT] at hz
        rw [hT] at hF
        (repeat (first
    | (apply is_ok; (case hw => simp [hlt, hf, hF, hz, e4, e5, e6, r3, hl', hl'', hl3, hT, h1, repeatX, repeatL_zero]); (case he => simp [hlt, hf, hF, hz, e4, e5, e6, r3, hl', hl'', hl3, hT, h1, repeatX, repeatL_zero]; exact is_rfl))
    | (apply op_no; (case hw => simp [hlt, hf, hF, hz, e4, e5, e6, r3, hl', hl'', hl3, hT, h1, repeatX, repeatL_zero]))
    | refine op_nil ?_ | refine next_normal ?_ | refine go_seq ?_ | refine go_region ?_ | refine go_skip ?_ | refine go_block ?_ | refine inb_normal ?_
    | (apply go_yes; (case hc => simp [hlt, hf, hF, hz, e4, e5, e6, r3, hl', hl'', hl3, hT, h1, repeatX, repeatL_zero])) | (apply go_no; (case hc => simp [hlt, hf, hF, hz, e4, e5, e6, r3, hl', hl'', hl3, hT, h1, repeatX, repeatL_zero]))
    | refine go_exit ?_ | refine next_exit ?_ | refine inb_here ?_ | refine inb_past (by decide) ?_ | refine go_ret ?_ | refine next_ret ?_ | refine inb_ret ?_))
        refine ⟨(i + 1, putS T l[i]), by simp [hw, putS, List.map_set], by show l.length - (i + 1) < l.length - i; omega, by show i + 1 ≤ l.length; omega, by simpa [putS] using hT, hA⟩
      · rw [if_neg hz] at hA
        rw [hT] at hz hF hA
        (repeat (first
    | (apply is_ok; (case hw => simp [hlt, hf, hF, hz, hT]); (case he => simp [hlt, hf, hF, hz, hT]; exact is_rfl))
    | (apply op_no; (case hw => simp [hlt, hf, hF, hz, hT]))
    | refine op_nil ?_ | refine next_normal ?_ | refine go_seq ?_ | refine go_region ?_ | refine go_skip ?_ | refine go_block ?_ | refine inb_normal ?_
    | (apply go_yes; (case hc => simp [hlt, hf, hF, hz, hT])) | (apply go_no; (case hc => simp [hlt, hf, hF, hz, hT]))
    | refine go_exit ?_ | refine next_exit ?_ | refine inb_here ?_ | refine inb_past (by decide) ?_ | refine go_ret ?_ | refine next_ret ?_ | refine inb_ret ?_))
        (apply ends_ok; (case h1 => simp; exact is_rfl); (case h2 => simp; exact is_rfl))
        simp [← hA, hT]
  · (repeat (first
    | (apply is_ok; (case hw => simp [hlt]); (case he => simp [hlt]; exact is_rfl))
    | (apply op_no; (case hw => simp [hlt]))
    | refine op_nil ?_ | refine next_normal ?_ | refine go_seq ?_ | refine go_region ?_ | refine go_skip ?_ | refine go_block ?_ | refine inb_normal ?_
    | (apply go_yes; (case hc => simp [hlt])) | (apply go_no; (case hc => simp [hlt]))
    | refine go_exit ?_ | refine next_exit ?_ | refine inb_here ?_ | refine inb_past (by decide) ?_ | refine go_ret ?_ | refine next_ret ?_ | refine inb_ret ?_))
    (apply ends_ok; (case h1 => simp; exact is_rfl); (case h2 => simp; exact is_rfl))
    have : i = l.length := by omega
    rw [this, List.drop_length, applyS] at hA
    simp [← hA, hT, this]

end Go.Abs

namespace Go.Abs
open Go.Proofs
set_option maxRecDepth 100000
set_option linter.unusedSimpArgs false

theorem putS_length {S : List (List UInt8)} {w : Int × List UInt8} : (putS S w).length = S.length := by simp [putS]

end Go.Abs

namespace Go.Abs
open Go.Proofs
set_option maxRecDepth 100000
set_option linter.unusedSimpArgs false

/-- The places up to n at which two lists differ. -/
def diffL (S T : List (List UInt8)) (n : Nat) : List Int := ((List.range n).filter fun i => !(S[i]? == T[i]?)).map Int.ofNat
theorem diffL_succ (S T : List (List UInt8)) (n : Nat) : diffL S T (n + 1) = if S[n]? = T[n]? then diffL S T n else diffL S T n ++ [(n : Int)] := by
  unfold diffL
  rw [List.range_succ, List.filter_append, List.map_append]
  by_cases h : S[n]? = T[n]? <;> simp [h]
theorem diffL_length (S T : List (List UInt8)) (n : Nat) : (diffL S T n).length ≤ n := by
  unfold diffL
  rw [List.length_map]
  exact Nat.le_trans (List.length_filter_le _ _) (by simp)
abbrev diffA (S T : List (List UInt8)) : List Int := diffL S T (max S.length T.length)
theorem diffL_nil {S T : List (List UInt8)} {n : Nat} : diffL S T n = [] ↔ ∀ i, i < n → S[i]? = T[i]? := by
  unfold diffL
  rw [List.map_eq_nil_iff, List.filter_eq_nil_iff]
  simp
theorem diffA_nil {S T : List (List UInt8)} : diffA S T = [] ↔ S = T := by
  rw [diffL_nil]
  constructor
  · intro h
    apply List.ext_getElem?
    intro i
    by_cases hi : i < max S.length T.length
    · exact h i hi
    · rw [List.getElem?_eq_none (by omega), List.getElem?_eq_none (by omega)]
  · rintro rfl _ _; rfl

end Go.Abs

namespace Go.Abs
open Go.Proofs
set_option maxRecDepth 100000
set_option linter.unusedSimpArgs false

def SmallP (l : List (Int × List UInt8)) : Prop := l.length ≤ 60 ∧ ∀ w ∈ l, w.2.length ≤ 200
instance (l : List (Int × List UInt8)) : Decidable (SmallP l) := by unfold SmallP; infer_instance

theorem applyS_length (B : List Int) (fuse : Int) : ∀ (l : List (Int × List UInt8)) (S : List (List UInt8)) (i : Nat), (applyS B fuse S i l).1.length = S.length
  | [], S, i => rfl
  | w :: l, S, i => by
    rw [applyS]
    split
    · rfl
    · split
      · rw [applyS_length B fuse l, putS_length]
      · rfl

end Go.Abs

namespace Go.Abs
open Go.Proofs
set_option maxRecDepth 100000
set_option linter.unusedSimpArgs false

theorem wr_cells {n : Nat} {cs : List V} (h : HasT Tryz.prog n 83 cs) : ∃ w : Int × List UInt8, V.agg cs = wrV w ∧ (-9223372036854775808 ≤ w.1 ∧ w.1 ≤ 9223372036854775807) := by
  obtain ⟨m, rfl, h1, h2⟩ := hasT_struct Tryz.underlying83 h
  have hl : cs.length = 2 := h1.trans (by kernel_rfl)
  match cs, hl with
  | [a, b], _ =>
    have f0 := h2 0 _ rfl
    have f1 := h2 1 _ rfl
    obtain ⟨k, e1, hk⟩ := hasT_int Tryz.underlying3 f0
    obtain ⟨s, e2, _⟩ := hasT_str Tryz.underlying9 f1
    have e1' : [a] = [V.int .i64 k] := e1
    have e2' : [b] = [V.str s] := e2
    cases e1'
    cases e2'
    exact ⟨(k, s), rfl, wf_i64 hk⟩
theorem writes_of {x : V} (h : ArgT Tryz.prog 81 x) : ∃ l : List (Int × List UInt8), x = .sl (l.map wrV) ∧ l.length ≤ maxLen := by
  obtain ⟨n, h1, h2⟩ := h
  rw [show aggT Tryz.prog 81 = some false by kernel_rfl] at h2
  rw [cells_one (Option.some.inj h2).symm] at h1
  obtain ⟨m, es, rfl, h3, h4, h5⟩ := hasT_slice Tryz.underlying81 (cells_ne (n := 2) (by kernel_rfl) (by decide)) h1
  cases h3
  obtain ⟨l, rfl, _⟩ := map_of (p := fun _ => True) (f := wrV) fun x hx => by
    obtain ⟨h6, h7⟩ := h5 x hx
    rw [show aggT Tryz.prog 83 = some true by kernel_rfl] at h6
    obtain ⟨cs, rfl⟩ := cells_some (Option.some.inj h6).symm
    obtain ⟨w, h8, _⟩ := wr_cells h7
    exact ⟨w, h8, trivial⟩
  exact ⟨l, rfl, by simpa using h4⟩

end Go.Abs

namespace Go.Abs
open Go.Proofs
set_option maxRecDepth 100000
set_option linter.unusedSimpArgs false

theorem diffL_one {S T : List (List UInt8)} {i : Nat} (h : ∀ j, j ≠ i → S[j]? = T[j]?) : ∀ n, diffL S T n = if i < n ∧ S[i]? ≠ T[i]? then [(i : Int)] else []
  | 0 => by simp [diffL]
  | n + 1 => by
    rw [diffL_succ, diffL_one h n]
    by_cases hn : n = i
    · subst hn
      by_cases h2 : S[n]? = T[n]?
      · simp [h2]
      · simp [h2]
    · rw [if_pos (h n hn)]
      have : i < n + 1 ↔ i < n := by omega
      simp only [this]
theorem diffA_put (S : List (List UInt8)) (w : Int × List UInt8) (h0 : 0 ≤ w.1) : diffA S (putS S w) = [] ∨ diffA S (putS S w) = [w.1] := by
  have h : ∀ j, j ≠ w.1.toNat → S[j]? = (putS S w)[j]? := fun j hj => by unfold putS; rw [List.getElem?_set_ne (Ne.symm hj)]
  rw [diffA, diffL_one h]
  split
  · exact .inr (by rw [Int.toNat_of_nonneg h0])
  · exact .inl rfl
theorem RightP_put {S : List (List UInt8)} {B : List Int} {w : Int × List UInt8} (h : RightP S B) (hw : w.2.length ≤ 128) : RightP (putS S w) B := by
  obtain ⟨h1, h2, h3, h4, h5⟩ := h
  refine ⟨by rw [putS_length]; exact h1, by rw [putS_length]; exact h2, fun s hs => ?_, by rw [putS_length]; exact h4, h5⟩
  unfold putS at hs
  rcases List.mem_or_eq_of_mem_set hs with hs | rfl
  · exact h3 s hs
  · simp; omega
theorem readS_put {S : List (List UInt8)} {B : List Int} {w : Int × List UInt8} (h : faultI S.length B w = 0) : readS (putS S w) B w.1 = (w.2 ++ List.replicate (128 - w.2.length) 0, 0) := by
  obtain ⟨h1, h2, h3⟩ := faultI_zero.1 h
  have hl : w.1.toNat < S.length := by omega
  unfold readS
  rw [putS_length, if_pos h1, if_neg h3]
  simp [putS, hl]

end Go.Abs

namespace Go.Abs
open Go.Proofs
set_option maxRecDepth 100000
set_option linter.unusedSimpArgs false

abbrev OkAll (n : Nat) (B : List Int) (l : List (Int × List UInt8)) : Prop := ∀ w ∈ l, faultI n B w = 0
abbrev puts (S : List (List UInt8)) (l : List (Int × List UInt8)) : List (List UInt8) := l.foldl putS S

theorem puts_length : ∀ (l : List (Int × List UInt8)) (S : List (List UInt8)), (puts S l).length = S.length
  | [], S => rfl
  | w :: l, S => by show (puts (putS S w) l).length = _; rw [puts_length l, putS_length]

theorem applyS_fuse (B : List Int) : ∀ (l : List (Int × List UInt8)) (S : List (List UInt8)) (i k : Nat), OkAll S.length B l → i ≤ k → applyS B k S i l = (puts S (l.take (k - i)), min k (i + l.length), 0)
  | [], S, i, k, _, h => by simp [applyS]; omega
  | w :: l, S, i, k, ho, h => by
    rw [applyS]
    by_cases hk : i = k
    · subst hk
      simp
    · rw [if_neg (by omega), if_pos (ho w (List.mem_cons_self ..)), applyS_fuse B l (putS S w) (i + 1) k (by rw [putS_length]; exact fun w hw => ho w (List.mem_cons_of_mem _ hw)) (by omega)]
      have : k - i = (k - (i + 1)) + 1 := by omega
      rw [this, List.take_succ_cons, List.length_cons, show i + 1 + l.length = i + (l.length + 1) by omega]
      rfl
theorem applyS_all (B : List Int) : ∀ (l : List (Int × List UInt8)) (S : List (List UInt8)) (i : Nat), OkAll S.length B l → applyS B (-1) S i l = (puts S l, i + l.length, 0)
  | [], S, i, _ => rfl
  | w :: l, S, i, ho => by
    rw [applyS, if_neg (by omega), if_pos (ho w (List.mem_cons_self ..)), applyS_all B l (putS S w) (i + 1) (by rw [putS_length]; exact fun w hw => ho w (List.mem_cons_of_mem _ hw))]
    rw [List.length_cons, show i + 1 + l.length = i + (l.length + 1) by omega]
    rfl
theorem applyS_err (B : List Int) : ∀ (l : List (Int × List UInt8)) (S : List (List UInt8)) (i : Nat), ¬ OkAll S.length B l → (applyS B (-1) S i l).2.2 ≠ 0 ∧ (applyS B (-1) S i l).2.1 < i + l.length
  | [], S, i, ho => absurd (fun w hw => by simp at hw) ho
  | w :: l, S, i, ho => by
    rw [applyS, if_neg (by omega)]
    by_cases hw : faultI S.length B w = 0
    · rw [if_pos hw]
      have := applyS_err B l (putS S w) (i + 1) (fun h => ho fun v hv => by
        rw [putS_length] at h
        rcases List.mem_cons.1 hv with rfl | hv
        · exact hw
        · exact h v hv)
      simp only [List.length_cons]
      exact ⟨this.1, by omega⟩
    · rw [if_neg hw]
      exact ⟨hw, by simp⟩
theorem RightP_puts {B : List Int} : ∀ (l : List (Int × List UInt8)) (S : List (List UInt8)), RightP S B → OkAll S.length B l → RightP (puts S l) B
  | [], S, h, _ => h
  | w :: l, S, h, ho => RightP_puts l (putS S w) (RightP_put h (faultI_zero.1 (ho w (List.mem_cons_self ..))).2.1) (by rw [putS_length]; exact fun v hv => ho v (List.mem_cons_of_mem _ hv))
theorem puts_other {B : List Int} : ∀ (l : List (Int × List UInt8)) (S : List (List UInt8)), OkAll S.length B l → ∀ j : Nat, S[j]? ≠ (puts S l)[j]? → ∃ w ∈ l, w.1 = j
  | [], S, _, j, h => absurd rfl h
  | w :: l, S, ho, j, h => by
    by_cases hw : w.1 = j
    · exact ⟨w, List.mem_cons_self .., hw⟩
    · have h0 := (faultI_zero.1 (ho w (List.mem_cons_self ..))).1.1
      have e : (putS S w)[j]? = S[j]? := by
        unfold putS
        rw [List.getElem?_set_ne (by omega)]
      obtain ⟨v, hv, h2⟩ := puts_other l (putS S w) (by rw [putS_length]; exact fun v hv => ho v (List.mem_cons_of_mem _ hv)) j (by rw [e]; exact h)
      exact ⟨v, List.mem_cons_of_mem _ hv, h2⟩
theorem diffL_mem {S T : List (List UInt8)} {n : Nat} {x : Int} (h : x ∈ diffL S T n) : ∃ j : Nat, x = j ∧ S[j]? ≠ T[j]? := by
  unfold diffL at h
  obtain ⟨j, h1, rfl⟩ := List.mem_map.1 h
  rw [List.mem_filter] at h1
  exact ⟨j, rfl, by simpa using h1.2⟩

theorem is_same {C : Ctx} {d : Bool} {env : Env} {H : Heap} {N : Env → Heap → Prop} {dst : Option Nat} {op : Op} {t : Nat} {g : Option (Option Nat × Bool)} {r : List Sop} {v : V} (hw : want1 env g = .yes) (he : ev1 C.P (pickC C.loud d (callW C) op) env H op t = some (v, H)) (h : Op1 C d r (env.put dst v) H N) : Op1 C d (⟨dst, op, t, g⟩ :: r) env H N := op_yes hw he h

end Go.Abs

namespace Go.Abs
open Go.Proofs
set_option maxRecDepth 100000
set_option linter.unusedSimpArgs false
set_option linter.unusedVariables false

/-- A sector of an image. -/
def secT (t : List UInt8) (i : Nat) : List UInt8 := (t.take (min ((i + 1) * 128) t.length)).drop (i * 128)
/-- The writes of an image. -/
def outW (t : List UInt8) (n0 : Int) (n : Nat) : List (Int × List UInt8) := (List.range n).map fun (i : Nat) => (n0 + (i : Int), secT t i)
theorem outW_succ (t : List UInt8) (n0 : Int) (n : Nat) : outW t n0 (n + 1) = outW t n0 n ++ [(n0 + (n : Int), secT t n)] := by simp [outW, List.range_succ]
@[simp] theorem outW_len (t : List UInt8) (n0 : Int) (n : Nat) : (outW t n0 n).length = n := by simp [outW]
theorem setP_setP (s : Sys) (i : Nat) (p q : Pr) : (s.setP i p).setP i q = s.setP i q := by
  unfold Sys.setP
  simp

theorem Out_no (s : Sys) (k : Int) (h : imgB s.ps k false = false) : bodyW DC 6 [.agg s.cells, .int .i64 k] [] = some (.tuple [.agg zN, .int .i64 1], []) := by
  have v1 := swImage_eq s k false
  rw [h] at v1
  rw [s.cells_cw] at v1 ⊢
  (refine gives_iff ?_; refine go_func Tryz.f6 rfl rfl (by simp [Tryz.f6]) ?_; dsimp only [codeL, Tryz.f6, scL, sopsL, guardL, dstAt, loopKey])
  (repeat (first
    | (apply is_ok; (case hw => simp [v1]); (case he => simp [v1]; exact is_rfl))
    | (apply op_no; (case hw => simp [v1]))
    | refine op_nil ?_ | refine next_normal ?_ | refine go_seq ?_ | refine go_region ?_ | refine go_skip ?_ | refine go_block ?_ | refine inb_normal ?_
    | (apply go_yes; (case hc => simp [v1])) | (apply go_no; (case hc => simp [v1]))
    | refine go_exit ?_ | refine next_exit ?_ | refine inb_here ?_ | refine inb_past (by decide) ?_ | refine go_ret ?_ | refine next_ret ?_ | refine inb_ret ?_))
  (apply ends_ok; (case h1 => simp; exact is_rfl); (case h2 => simp; exact is_rfl))
  simp

/-- What is asked of a system that is looked into. -/
structure Fine (s : Sys) : Prop where
  mem : s.mem.length ≤ 1024
  S : s.S.length ≤ 64
  B : s.B.length ≤ 1000000
  words : Words s.mem
  right : rightP s
  core : apP (coreL s.ps) s.co
  swap : apP (swpL s.ps) s.sw

theorem mem_swp {ps : List Pr} {y : Ex} (h : ∀ p ∈ ps, hasP p → UsuP (p.base, p.blk)) (hy : y ∈ swpL ps) : UsuP y := by
  obtain ⟨p, hp, rfl⟩ := List.mem_map.1 hy
  obtain ⟨h1, h2⟩ := List.mem_filter.1 hp
  rw [Bool.and_eq_true] at h2
  have h3 : hasP p := of_decide_eq_true h2.1
  have h4 := h p h1 h3
  have h6 := secN_bound h3.2 h4.2.2.2
  exact ⟨h4.1, h4.2.1, Int.le_of_lt h6.1, h6.2.1⟩
theorem mem_core {ps : List Pr} {y : Ex} (h : ∀ p ∈ ps, hasP p → UsuP (p.base, p.blk)) (hy : y ∈ coreL ps) : UsuP y := by
  obtain ⟨p, hp, rfl⟩ := List.mem_map.1 hy
  obtain ⟨h1, h2⟩ := List.mem_filter.1 hp
  rw [Bool.and_eq_true] at h2
  exact h p h1 (of_decide_eq_true h2.1)
theorem core_in {s : Sys} (h : Fine s) {p : Pr} (hp : p ∈ s.ps) (h1 : hasP p) (h2 : p.swd = false) : inP s.co (p.base, p.blk) ∧ 0 ≤ p.base ∧ p.base ≤ 1048576 ∧ 1 ≤ p.blk ∧ p.blk ≤ 1048576 ∧ (p.base + p.blk) * 32 ≤ s.mem.length := by
  have hu := h.right.2.2.2.2 p hp h1
  have hm : (p.base, p.blk) ∈ coreL s.ps := List.mem_map.2 ⟨p, List.mem_filter.2 ⟨hp, by simp [h1, h2]⟩, rfl⟩
  obtain ⟨j, hj, he⟩ := List.mem_iff_getElem.1 hm
  have hi := (h.core j hj).1
  rw [he] at hi
  have c := h.right.2.2.1
  have h3 := h1.2
  have u1 := hu.1
  have u2 := hu.2.1
  have u4 := hu.2.2.2
  unfold inP at hi
  dsimp only at *
  have h5 : 0 < s.co.2 := by omega
  have h6 : ¬ (s.mem.length : Int) < (s.co.1 + s.co.2) * 32 := fun h => c ⟨h5, h⟩
  exact ⟨hi, u1, u2, h3, u4, by omega⟩

theorem Out_full (s : Sys) (hs : Fine s) (i : Nat) (p : Pr) (hp : s.ps[i]? = some p) (h1 : hasP p) (h2 : p.swd = false) (hw : ∀ q ∈ s.ps, q.Wf) (hf : fitN (swpL s.ps) s.sw (secN p.blk) = none) : bodyW DC 6 [.agg s.cells, .int .i64 i] [] = some (.tuple [.agg zN, .int .i64 12], []) := by
  have hps := s.hps
  have hpm := List.mem_of_getElem? hp
  have hi := (List.getElem?_eq_some_iff.1 hp).1
  have g1 : i < 8 := by omega
  have g2 : (i : Int) < 8 := by omega
  have v1 := swImage_eq s i false
  rw [imgB_iff.2 ⟨i, p, rfl, hp, h1, h2⟩] at v1
  have l2 := swpL_len s.ps
  have v2 := Sectors_eq p.blk (hw p hpm).2.2
  have v3 := Swapped_eq s fun q hq => (hw q hq).2.2
  have v4 := Fit_eq' (swpL s.ps) (by omega) (fun y hy => mem_swp hs.right.2.2.2.2 hy) s.sw hs.right.2.1 (secN p.blk)
  unfold fitV at v4
  rw [hf] at v4
  rw [s.cells_cw] at v1 ⊢
  (refine gives_iff ?_; refine go_func Tryz.f6 rfl rfl (by simp [Tryz.f6]) ?_; dsimp only [codeL, Tryz.f6, scL, sopsL, guardL, dstAt, loopKey])
  (repeat (first
    | (apply is_ok; (case hw => simp [v1, v2, v3, v4, g1, g2, hp, exV]); (case he => simp [v1, v2, v3, v4, g1, g2, hp, exV]; exact is_rfl))
    | (apply op_no; (case hw => simp [v1, v2, v3, v4, g1, g2, hp, exV]))
    | refine op_nil ?_ | refine next_normal ?_ | refine go_seq ?_ | refine go_region ?_ | refine go_skip ?_ | refine go_block ?_ | refine inb_normal ?_
    | (apply go_yes; (case hc => simp [v1, v2, v3, v4, g1, g2, hp, exV])) | (apply go_no; (case hc => simp [v1, v2, v3, v4, g1, g2, hp, exV]))
    | refine go_exit ?_ | refine next_exit ?_ | refine inb_here ?_ | refine inb_past (by decide) ?_ | refine go_ret ?_ | refine next_ret ?_ | refine inb_ret ?_))
  (apply ends_ok; (case h1 => simp; exact is_rfl); (case h2 => simp; exact is_rfl))
  simp

/-- What a process that is swapped out leaves: the writes done. -/
noncomputable def outR (s : Sys) (p : Pr) (n0 : Int) : List (List UInt8) × Nat × Int := applyS s.B (-1) s.S 0 (outW (bytesL s.mem (p.base.toNat * 64) (p.blk.toNat * 64)) n0 (secN p.blk).toNat)

set_option maxHeartbeats 4000000 in
theorem Out_walk (s : Sys) (hs : Fine s) (i : Nat) (p : Pr) (hp : s.ps[i]? = some p) (h1 : hasP p) (h2 : p.swd = false) (hw : ∀ q ∈ s.ps, q.Wf) (n0 : Int) (hf : fitN (swpL s.ps) s.sw (secN p.blk) = some n0) (hn : 0 ≤ n0 ∧ n0 ≤ 4000000) : bodyW DC 6 [.agg s.cells, .int .i64 i] [] =
    if (outR s p n0).2.2 = 0 then some (.tuple [.agg ((s.setP i { p with base := n0, swd := true }).cw (.sl (ints s.mem)) (.sl (ints s.bad)) (.own 0 s.S.length 0 s.S.length) (.own 1 s.B.length 0 s.B.length)), .int .i64 0], [.dat true 1 (strs (outR s p n0).1), .dat true 1 (ints s.B)])
    else some (.tuple [.agg zN, .int .i64 (outR s p n0).2.2], []) := by
  have hps := s.hps
  have hpm := List.mem_of_getElem? hp
  have hi := (List.getElem?_eq_some_iff.1 hp).1
  have g1 : i < 8 := by omega
  have g2 : (i : Int) < 8 := by omega
  have v1 := swImage_eq s i false
  rw [imgB_iff.2 ⟨i, p, rfl, hp, h1, h2⟩] at v1
  have l2 := swpL_len s.ps
  have v2 := Sectors_eq p.blk (hw p hpm).2.2
  have v3 := Swapped_eq s fun q hq => (hw q hq).2.2
  have v4 := Fit_eq' (swpL s.ps) (by omega) (fun y hy => mem_swp hs.right.2.2.2.2 hy) s.sw hs.right.2.1 (secN p.blk)
  unfold fitV at v4
  rw [hf] at v4
  obtain ⟨c1, c2, c3, c4, c5, c6⟩ := core_in hs hpm h1 h2
  obtain ⟨s1, s2, s3⟩ := secN_bound c4 c5
  have hm := hs.mem
  obtain ⟨ba, hba⟩ := Int.eq_ofNat_of_zero_le c2
  obtain ⟨bl, hbl⟩ := Int.eq_ofNat_of_zero_le (by omega : 0 ≤ p.blk)
  obtain ⟨n, hn2⟩ := Int.eq_ofNat_of_zero_le (by omega : 0 ≤ secN p.blk)
  have v5 := mBytes_eq s.mem (by omega) (ba * 64) (bl * 64) (by omega)
  have hR : outR s p n0 = applyS s.B (-1) s.S 0 (outW (bytesL s.mem (ba * 64) (bl * 64)) n0 n) := by
    unfold outR
    rw [hn2, hba, hbl]
    rfl
  generalize outR s p n0 = R at hR ⊢
  generalize ht : bytesL s.mem (ba * 64) (bl * 64) = t at v5 hR
  have htl : t.length = bl * 64 := by rw [← ht]; simp
  have hnb : (n : Int) = (bl : Int) / 2 + (bl : Int) % 2 := by rw [← hn2, s3, hbl]
  have hn48 : n ≤ 1048576 := by omega
  have hb48 : bl ≤ 1048576 := by omega
  have w1 : IntKind.i64.wrap ((ba : Int) * 64) = ((ba * 64 : Nat) : Int) := by rw [wrap_id (by omega) (by omega)]; omega
  have w2 : IntKind.i64.wrap ((bl : Int) * 64) = ((bl * 64 : Nat) : Int) := by rw [wrap_id (by omega) (by omega)]; omega
  push_cast at v5 w1 w2
  have v6 := Apply_eq s.S s.B (by have := hs.S; omega) hs.B (outW t n0 n) (by simp; omega) (-1)
  rw [← hR] at v6
  rw [hn2] at v2 v4
  rw [hbl] at v2
  rw [s.cells_cw] at v1 ⊢
  suffices key : ∀ r H', (if R.2.2 = 0 then some (V.tuple [.agg ((s.setP i { p with base := n0, swd := true }).cw (.sl (ints s.mem)) (.sl (ints s.bad)) (.own 0 s.S.length 0 s.S.length) (.own 1 s.B.length 0 s.B.length)), .int .i64 0], [Blk.dat true 1 (strs R.1), .dat true 1 (ints s.B)])
      else some (V.tuple [.agg zN, .int .i64 R.2.2], [])) = some (r, H') → bodyW DC 6 [.agg (s.cw (.sl (ints s.mem)) (.sl (ints s.bad)) (.sl (strs s.S)) (.sl (ints s.B))), .int .i64 i] [] = some (r, H') by
    by_cases hz : R.2.2 = 0
    · rw [if_pos hz] at key ⊢
      exact key _ _ rfl
    · rw [if_neg hz] at key ⊢
      exact key _ _ rfl
  intro r H' hr
  · (refine gives_iff ?_; refine go_func Tryz.f6 rfl rfl (by simp [Tryz.f6]) ?_; dsimp only [codeL, Tryz.f6, scL, sopsL, guardL, dstAt, loopKey])
    (repeat (first
    | (apply is_ok; (case hw => simp [v1, v2, v3, v4, v5, w1, w2, g1, g2, hp, exV, hba, hbl]); (case he => simp [v1, v2, v3, v4, v5, w1, w2, g1, g2, hp, exV, hba, hbl]; exact is_rfl))
    | (apply op_no; (case hw => simp [v1, v2, v3, v4, v5, w1, w2, g1, g2, hp, exV, hba, hbl]))
    | refine op_nil ?_ | refine next_normal ?_ | refine go_seq ?_ | refine go_region ?_ | refine go_skip ?_ | refine go_block ?_ | refine inb_normal ?_
    | (apply go_yes; (case hc => simp [v1, v2, v3, v4, v5, w1, w2, g1, g2, hp, exV, hba, hbl])) | (apply go_no; (case hc => simp [v1, v2, v3, v4, v5, w1, w2, g1, g2, hp, exV, hba, hbl]))
    | refine go_exit ?_ | refine next_exit ?_ | refine inb_here ?_ | refine inb_past (by decide) ?_ | refine go_ret ?_ | refine next_ret ?_ | refine inb_ret ?_))
    refine go_count n (fun j => [(2, .ptr 0 1 0 0), (4, .ptr 1 1 0 0), (6, .ptr 0 1 0 (110 + i * 29)), (8, .int .i64 n0), (10, .str t), (12, .own 9 j 0 j), (63, .int .i64 n), (64, .int .i64 j)])
      (fun j => [.box (.agg (s.cw (.sl (ints s.mem)) (.sl (ints s.bad)) (.sl (strs s.S)) (.sl (ints s.B)))), .box (.agg (zO (.own 2 0 0 0) (.own 3 0 0 0) (.own 4 0 0 0) (.own 5 0 0 0) (.own 6 0 0 0) (.own 7 0 0 0) (.own 8 0 0 0))), .dat true 1 [], .dat true 1 [], .dat true 9 [], .dat true 1 [], .dat true 1 [], .dat true 1 [], .dat true 4 [], .dat true 2 ((outW t n0 j).map wrV)]) (fun _ => True) (by simp [outW]) trivial fun j hj _ => ?_
    by_cases hlt : j < n
    · have k1 : (j : Int) < n := by omega
      have k2 : IntKind.i64.wrap ((j : Int) + 1) = (j : Int) + 1 := wrap_id (by omega) (by omega)
      have k3 : IntKind.i64.wrap (((j : Int) + 1) * 128) = ((j : Int) + 1) * 128 := wrap_id (by omega) (by omega)
      obtain ⟨q, hq⟩ : ∃ q, q = j * 128 := ⟨_, rfl⟩
      have k4 : IntKind.i64.wrap ((j : Int) * 128) = (q : Int) := by rw [wrap_id (by omega) (by omega)]; omega
      have k5 : IntKind.i64.wrap (n0 + (j : Int)) = n0 + (j : Int) := wrap_id (by omega) (by omega)
      have r1 : (j + 1) * 24 ≤ room := by unfold room; omega
      have r2 : j + 1 ≤ room := by unfold room; omega
      have r3 : q ≤ t.length := by omega
      obtain ⟨m, hm2⟩ : ∃ m, m = min ((j + 1) * 128) t.length := ⟨_, rfl⟩
      have k6 : min (((j : Int) + 1) * 128) (t.length : Int) = (m : Int) := by omega
      have r4 : q ≤ m := by omega
      have r5 : m ≤ t.length := by omega
      have es : secT t j = (t.take m).drop q := by rw [hm2, hq]; rfl
      (repeat (first
    | (apply is_ok; (case hw => simp [k1, k2, k3, k4, k5, k6, r1, r2, r3, r4, r5, hlt]); (case he => simp [k1, k2, k3, k4, k5, k6, r1, r2, r3, r4, r5, hlt]; exact is_rfl))
    | (apply op_no; (case hw => simp [k1, k2, k3, k4, k5, k6, r1, r2, r3, r4, r5, hlt]))
    | refine op_nil ?_ | refine next_normal ?_ | refine go_seq ?_ | refine go_region ?_ | refine go_skip ?_ | refine go_block ?_ | refine inb_normal ?_
    | (apply go_yes; (case hc => simp [k1, k2, k3, k4, k5, k6, r1, r2, r3, r4, r5, hlt])) | (apply go_no; (case hc => simp [k1, k2, k3, k4, k5, k6, r1, r2, r3, r4, r5, hlt]))
    | refine go_exit ?_ | refine next_exit ?_ | refine inb_here ?_ | refine inb_past (by decide) ?_ | refine go_ret ?_ | refine next_ret ?_ | refine inb_ret ?_))
      exact ⟨hlt, by simp [k2, outW_succ, es, wrV], trivial⟩
    · obtain rfl : j = n := by omega
      have g5 : ∀ q : Pr, (s.ps.set i q)[i]? = some q := fun q => by rw [List.getElem?_set_self hi]
      have g6 : ∀ q : Pr, (s.setP i q).ps[i]? = some q := g5
      by_cases hz : R.2.2 = 0
      · rw [if_pos hz] at hr
        cases hr
        (repeat (first
    | (apply is_ok; (case hw => simp [v6, hz, hp, g5, g6, setP_setP]); (case he => simp [v6, hz, hp, g5, g6, setP_setP]; exact is_rfl))
    | (apply op_no; (case hw => simp [v6, hz, hp, g5, g6, setP_setP]))
    | refine op_nil ?_ | refine next_normal ?_ | refine go_seq ?_ | refine go_region ?_ | refine go_skip ?_ | refine go_block ?_ | refine inb_normal ?_
    | (apply go_yes; (case hc => simp [v6, hz, hp, g5, g6, setP_setP])) | (apply go_no; (case hc => simp [v6, hz, hp, g5, g6, setP_setP]))
    | refine go_exit ?_ | refine next_exit ?_ | refine inb_here ?_ | refine inb_past (by decide) ?_ | refine go_ret ?_ | refine next_ret ?_ | refine inb_ret ?_))
        (apply ends_ok; (case h1 => simp; exact is_rfl); (case h2 => simp; exact is_rfl))
        exact ⟨rfl, rfl⟩
      · rw [if_neg hz] at hr
        cases hr
        (repeat (first
    | (apply is_ok; (case hw => simp [v6, hz]); (case he => simp [v6, hz]; exact is_rfl))
    | (apply op_no; (case hw => simp [v6, hz]))
    | refine op_nil ?_ | refine next_normal ?_ | refine go_seq ?_ | refine go_region ?_ | refine go_skip ?_ | refine go_block ?_ | refine inb_normal ?_
    | (apply go_yes; (case hc => simp [v6, hz])) | (apply go_no; (case hc => simp [v6, hz]))
    | refine go_exit ?_ | refine next_exit ?_ | refine inb_here ?_ | refine inb_past (by decide) ?_ | refine go_ret ?_ | refine next_ret ?_ | refine inb_ret ?_))
        (apply ends_ok; (case h1 => simp; exact is_rfl); (case h2 => simp; exact is_rfl))
        exact ⟨rfl, rfl⟩
end Go.Abs

namespace Go.Abs
open Go.Proofs
set_option maxRecDepth 100000
set_option linter.unusedSimpArgs false
set_option linter.unusedVariables false

def bldI (i : Nat) : V := if i = 0 then .nilx 0 else .ptr 9 1 0 0
@[simp] theorem all_u8s (s : List UInt8) : ((u8s s).all fun e => decide (e.cells.length = 1)) = true := by
  rw [List.all_eq_true]
  intro x hx
  unfold u8s at hx
  obtain ⟨c, _, rfl⟩ := List.mem_map.1 hx
  rfl
@[simp] theorem refsL_u8s (s : List UInt8) : refsL (u8s s) = [] := refsL_none fun x hx => by obtain ⟨a, _, rfl⟩ := List.mem_map.1 hx; rfl
@[simp] theorem renL_u8s (ρ : Nat → Option Nat) (s : List UInt8) : renL ρ (u8s s) = u8s s := renL_same fun x hx => by obtain ⟨a, _, rfl⟩ := List.mem_map.1 hx; rfl
@[simp] theorem u8s_app (a b : List UInt8) : u8s a ++ u8s b = u8s (a ++ b) := by simp [u8s]
theorem WSi_eq (s : Sys) (i : Nat) (b t : List UInt8) (hb : b.length + t.length ≤ 1000000) : bodyW DC 32 [.ptr 9 1 0 0, .str t] [.box (.agg (s.cw (.sl (ints s.mem)) (.sl (ints s.bad)) (.sl (strs s.S)) (.sl (ints s.B)))), .box (.agg (zO (.own 2 0 0 0) (.own 3 0 0 0) (.own 4 0 0 0) (.own 5 0 0 0) (.own 6 0 0 0) (.own 7 0 0 0) (.own 8 0 0 0))), .dat true 1 [], .dat true 1 [], .dat true 9 [], .dat true 1 [], .dat true 1 [], .dat true 1 [], .dat true 4 [], .arr (some 92) 2 [.agg [bldI i, .own 10 b.length 0 b.length]], .arr (some 5) 1 (u8s b)] =
    some (.tuple [.int .i64 t.length, .nilx 2], [.box (.agg (s.cw (.sl (ints s.mem)) (.sl (ints s.bad)) (.sl (strs s.S)) (.sl (ints s.B)))), .box (.agg (zO (.own 2 0 0 0) (.own 3 0 0 0) (.own 4 0 0 0) (.own 5 0 0 0) (.own 6 0 0 0) (.own 7 0 0 0) (.own 8 0 0 0))), .dat true 1 [], .dat true 1 [], .dat true 9 [], .dat true 1 [], .dat true 1 [], .dat true 1 [], .dat true 4 [], .arr (some 92) 2 [.agg [.ptr 9 1 0 0, .own 10 (b.length + t.length) 0 (b.length + t.length)]], .arr (some 5) 1 (u8s (b ++ t))]) := by
  have r1 : (b.length + t.length) * 1 ≤ room := by unfold room; omega
  have r2 : b.length + t.length ≤ room := by unfold room; omega
  cases i with
  | zero =>
    (refine gives_iff ?_; refine go_func Tryz.f32 rfl rfl (by simp [Tryz.f32]) ?_; dsimp only [codeL, Tryz.f32, scL, sopsL, guardL, dstAt, loopKey])
    (repeat (first
    | (apply is_ok; (case hw => simp [r1, r2, bldI, copyX, pSelf]); (case he => simp [r1, r2, bldI, copyX, pSelf]; exact is_rfl))
    | (apply op_no; (case hw => simp [r1, r2, bldI, copyX, pSelf]))
    | refine op_nil ?_ | refine next_normal ?_ | refine go_seq ?_ | refine go_region ?_ | refine go_skip ?_ | refine go_block ?_ | refine inb_normal ?_
    | (apply go_yes; (case hc => simp [r1, r2, bldI, copyX, pSelf])) | (apply go_no; (case hc => simp [r1, r2, bldI, copyX, pSelf]))
    | refine go_exit ?_ | refine next_exit ?_ | refine inb_here ?_ | refine inb_past (by decide) ?_ | refine go_ret ?_ | refine next_ret ?_ | refine inb_ret ?_))
    (apply ends_ok; (case h1 => simp; exact is_rfl); (case h2 => simp; exact is_rfl))
    simp
  | succ i =>
    (refine gives_iff ?_; refine go_func Tryz.f32 rfl rfl (by simp [Tryz.f32]) ?_; dsimp only [codeL, Tryz.f32, scL, sopsL, guardL, dstAt, loopKey])
    (repeat (first
    | (apply is_ok; (case hw => simp [r1, r2, bldI, copyX, pSelf]); (case he => simp [r1, r2, bldI, copyX, pSelf]; exact is_rfl))
    | (apply op_no; (case hw => simp [r1, r2, bldI, copyX, pSelf]))
    | refine op_nil ?_ | refine next_normal ?_ | refine go_seq ?_ | refine go_region ?_ | refine go_skip ?_ | refine go_block ?_ | refine inb_normal ?_
    | (apply go_yes; (case hc => simp [r1, r2, bldI, copyX, pSelf])) | (apply go_no; (case hc => simp [r1, r2, bldI, copyX, pSelf]))
    | refine go_exit ?_ | refine next_exit ?_ | refine inb_here ?_ | refine inb_past (by decide) ?_ | refine go_ret ?_ | refine next_ret ?_ | refine inb_ret ?_))
    (apply ends_ok; (case h1 => simp; exact is_rfl); (case h2 => simp; exact is_rfl))
    simp

/-- Is an address within some bytes? -/
def inR (fr n a : Int) : Bool := decide (fr ≤ a) && decide (a < fr + n)
section
variable (s : Sys) (p : V) (hp : p = .ptr 9 1 0 0) (k L : Nat) (fr n : Int) (M : List Int) (hf : 0 ≤ fr ∧ fr ≤ 1000000000) (hn : 0 ≤ n ∧ n ≤ 1000000000)
include hp hf hn
theorem in1_eq (Z : List Int) (a : Int) : bodyW DC 37 [.int .i64 a, .ptr 11 1 0 0, .ptr 12 1 0 0] [.box (.agg (s.cw (.own 13 L 0 L) (.sl (ints s.bad)) (.sl (strs s.S)) (.sl (ints s.B)))), .box (.agg (zO (.own 2 0 0 0) (.own 3 0 0 0) (.own 4 0 0 0) (.own 5 0 0 0) (.own 6 0 0 0) (.own 7 0 0 0) (.own 8 0 0 0))), .dat true 1 [], .dat true 1 [], .dat true 9 [], .dat true 1 [], .dat true 1 [], .dat true 1 [], .dat true 4 [], .arr (some 92) 2 [.agg [p, .own 10 k 0 k]], .dead, .box (.int .i64 fr), .box (.int .i64 n), .dat true 1 (ints M), .dat true 1 (ints Z)] =
    some (.bool (inR fr n a), [.box (.agg (s.cw (.own 13 L 0 L) (.sl (ints s.bad)) (.sl (strs s.S)) (.sl (ints s.B)))), .box (.agg (zO (.own 2 0 0 0) (.own 3 0 0 0) (.own 4 0 0 0) (.own 5 0 0 0) (.own 6 0 0 0) (.own 7 0 0 0) (.own 8 0 0 0))), .dat true 1 [], .dat true 1 [], .dat true 9 [], .dat true 1 [], .dat true 1 [], .dat true 1 [], .dat true 4 [], .arr (some 92) 2 [.agg [p, .own 10 k 0 k]], .dead, .box (.int .i64 fr), .box (.int .i64 n), .dat true 1 (ints M), .dat true 1 (ints Z)]) := by
  subst hp
  have w1 : IntKind.i64.wrap (fr + n) = fr + n := wrap_id (by omega) (by omega)
  unfold inR
  by_cases c1 : fr ≤ a
  · (refine gives_iff ?_; refine go_func Tryz.f37 rfl rfl (by simp [Tryz.f37]) ?_; dsimp only [codeL, Tryz.f37, scL, sopsL, guardL, dstAt, loopKey])
    (repeat (first
    | (apply is_ok; (case hw => simp [w1, c1]); (case he => simp [w1, c1]; exact is_rfl))
    | (apply op_no; (case hw => simp [w1, c1]))
    | refine op_nil ?_ | refine next_normal ?_ | refine go_seq ?_ | refine go_region ?_ | refine go_skip ?_ | refine go_block ?_ | refine inb_normal ?_
    | (apply go_yes; (case hc => simp [w1, c1])) | (apply go_no; (case hc => simp [w1, c1]))
    | refine go_exit ?_ | refine next_exit ?_ | refine inb_here ?_ | refine inb_past (by decide) ?_ | refine go_ret ?_ | refine next_ret ?_ | refine inb_ret ?_))
    (apply ends_ok; (case h1 => simp; exact is_rfl); (case h2 => simp; exact is_rfl))
    simp [c1]
  · (refine gives_iff ?_; refine go_func Tryz.f37 rfl rfl (by simp [Tryz.f37]) ?_; dsimp only [codeL, Tryz.f37, scL, sopsL, guardL, dstAt, loopKey])
    (repeat (first
    | (apply is_ok; (case hw => simp [w1, c1]); (case he => simp [w1, c1]; exact is_rfl))
    | (apply op_no; (case hw => simp [w1, c1]))
    | refine op_nil ?_ | refine next_normal ?_ | refine go_seq ?_ | refine go_region ?_ | refine go_skip ?_ | refine go_block ?_ | refine inb_normal ?_
    | (apply go_yes; (case hc => simp [w1, c1])) | (apply go_no; (case hc => simp [w1, c1]))
    | refine go_exit ?_ | refine next_exit ?_ | refine inb_here ?_ | refine inb_past (by decide) ?_ | refine go_ret ?_ | refine next_ret ?_ | refine inb_ret ?_))
    (apply ends_ok; (case h1 => simp; exact is_rfl); (case h2 => simp; exact is_rfl))
    simp [c1]


theorem in1t_eq (Z : List Int) (a : Int) : bodyW DC 37 [.int .i64 a, .ptr 11 1 0 0, .ptr 12 1 0 0] [.box (.agg (s.cw (.own 13 L 0 L) (.sl (ints s.bad)) (.sl (strs s.S)) (.sl (ints s.B)))), .box (.agg (zO (.own 2 0 0 0) (.own 3 0 0 0) (.own 4 0 0 0) (.own 5 0 0 0) (.own 6 0 0 0) (.own 7 0 0 0) (.own 8 0 0 0))), .dat true 1 [], .dat true 1 [], .dat true 9 [], .dat true 1 [], .dat true 1 [], .dat true 1 [], .dat true 4 [], .arr (some 92) 2 [.agg [p, .own 10 k 0 k]], .dead, .box (.int .i64 fr), .box (.int .i64 n), .dat true 1 (ints M), .dat true 1 (ints Z), .dat true 1 []] =
    some (.bool (inR fr n a), [.box (.agg (s.cw (.own 13 L 0 L) (.sl (ints s.bad)) (.sl (strs s.S)) (.sl (ints s.B)))), .box (.agg (zO (.own 2 0 0 0) (.own 3 0 0 0) (.own 4 0 0 0) (.own 5 0 0 0) (.own 6 0 0 0) (.own 7 0 0 0) (.own 8 0 0 0))), .dat true 1 [], .dat true 1 [], .dat true 9 [], .dat true 1 [], .dat true 1 [], .dat true 1 [], .dat true 4 [], .arr (some 92) 2 [.agg [p, .own 10 k 0 k]], .dead, .box (.int .i64 fr), .box (.int .i64 n), .dat true 1 (ints M), .dat true 1 (ints Z), .dat true 1 []]) := by
  subst hp
  have w1 : IntKind.i64.wrap (fr + n) = fr + n := wrap_id (by omega) (by omega)
  unfold inR
  by_cases c1 : fr ≤ a
  · (refine gives_iff ?_; refine go_func Tryz.f37 rfl rfl (by simp [Tryz.f37]) ?_; dsimp only [codeL, Tryz.f37, scL, sopsL, guardL, dstAt, loopKey])
    (repeat (first
    | (apply is_ok; (case hw => simp [w1, c1]); (case he => simp [w1, c1]; exact is_rfl))
    | (apply op_no; (case hw => simp [w1, c1]))
    | refine op_nil ?_ | refine next_normal ?_ | refine go_seq ?_ | refine go_region ?_ | refine go_skip ?_ | refine go_block ?_ | refine inb_normal ?_
    | (apply go_yes; (case hc => simp [w1, c1])) | (apply go_no; (case hc => simp [w1, c1]))
    | refine go_exit ?_ | refine next_exit ?_ | refine inb_here ?_ | refine inb_past (by decide) ?_ | refine go_ret ?_ | refine next_ret ?_ | refine inb_ret ?_))
    (apply ends_ok; (case h1 => simp; exact is_rfl); (case h2 => simp; exact is_rfl))
    simp [c1]
  · (refine gives_iff ?_; refine go_func Tryz.f37 rfl rfl (by simp [Tryz.f37]) ?_; dsimp only [codeL, Tryz.f37, scL, sopsL, guardL, dstAt, loopKey])
    (repeat (first
    | (apply is_ok; (case hw => simp [w1, c1]); (case he => simp [w1, c1]; exact is_rfl))
    | (apply op_no; (case hw => simp [w1, c1]))
    | refine op_nil ?_ | refine next_normal ?_ | refine go_seq ?_ | refine go_region ?_ | refine go_skip ?_ | refine go_block ?_ | refine inb_normal ?_
    | (apply go_yes; (case hc => simp [w1, c1])) | (apply go_no; (case hc => simp [w1, c1]))
    | refine go_exit ?_ | refine next_exit ?_ | refine inb_here ?_ | refine inb_past (by decide) ?_ | refine go_ret ?_ | refine next_ret ?_ | refine inb_ret ?_))
    (apply ends_ok; (case h1 => simp; exact is_rfl); (case h2 => simp; exact is_rfl))
    simp [c1]

def idxR (fr n : Int) (Z : List Int) : Int := match Z.findIdx? (inR fr n) with | some i => (i : Int) | none => -1
theorem inIdx_eq (Z : List Int) (hl : Z.length ≤ 1000000) : bodyW DC 68 [.own 14 Z.length 0 Z.length, .fn 37 [.ptr 11 1 0 0, .ptr 12 1 0 0]] [.box (.agg (s.cw (.own 13 L 0 L) (.sl (ints s.bad)) (.sl (strs s.S)) (.sl (ints s.B)))), .box (.agg (zO (.own 2 0 0 0) (.own 3 0 0 0) (.own 4 0 0 0) (.own 5 0 0 0) (.own 6 0 0 0) (.own 7 0 0 0) (.own 8 0 0 0))), .dat true 1 [], .dat true 1 [], .dat true 9 [], .dat true 1 [], .dat true 1 [], .dat true 1 [], .dat true 4 [], .arr (some 92) 2 [.agg [p, .own 10 k 0 k]], .dead, .box (.int .i64 fr), .box (.int .i64 n), .dat true 1 (ints M), .dat true 1 (ints Z), .dat true 1 []] =
    some (.int .i64 (idxR fr n Z), [.box (.agg (s.cw (.own 13 L 0 L) (.sl (ints s.bad)) (.sl (strs s.S)) (.sl (ints s.B)))), .box (.agg (zO (.own 2 0 0 0) (.own 3 0 0 0) (.own 4 0 0 0) (.own 5 0 0 0) (.own 6 0 0 0) (.own 7 0 0 0) (.own 8 0 0 0))), .dat true 1 [], .dat true 1 [], .dat true 9 [], .dat true 1 [], .dat true 1 [], .dat true 1 [], .dat true 4 [], .arr (some 92) 2 [.agg [p, .own 10 k 0 k]], .dead, .box (.int .i64 fr), .box (.int .i64 n), .dat true 1 (ints M), .dat true 1 (ints Z), .dat true 1 []]) := by
  have v := in1t_eq s p hp k L fr n M hf hn Z
  subst hp
  generalize hR : idxR fr n Z = R
  unfold idxR at hR
  (refine gives_iff ?_; refine go_func Tryz.f68 rfl rfl (by simp [Tryz.f68]) ?_; dsimp only [codeL, Tryz.f68, scL, sopsL, guardL, dstAt, loopKey])
  (repeat (first
    | (apply is_ok; (case hw => simp); (case he => simp; exact is_rfl))
    | (apply op_no; (case hw => simp))
    | refine op_nil ?_ | refine next_normal ?_ | refine go_seq ?_ | refine go_region ?_ | refine go_skip ?_ | refine go_block ?_ | refine inb_normal ?_
    | (apply go_yes; (case hc => simp)) | (apply go_no; (case hc => simp))
    | refine go_exit ?_ | refine next_exit ?_ | refine inb_here ?_ | refine inb_past (by decide) ?_ | refine go_ret ?_ | refine next_ret ?_ | refine inb_ret ?_))
  refine go_count Z.length (fun i => [(0, .own 14 Z.length 0 Z.length), (1, .fn 37 [.ptr 11 1 0 0, .ptr 12 1 0 0]), (7, .int .i64 Z.length), (8, .int .i64 i)]) (fun _ => [.box (.agg (s.cw (.own 13 L 0 L) (.sl (ints s.bad)) (.sl (strs s.S)) (.sl (ints s.B)))), .box (.agg (zO (.own 2 0 0 0) (.own 3 0 0 0) (.own 4 0 0 0) (.own 5 0 0 0) (.own 6 0 0 0) (.own 7 0 0 0) (.own 8 0 0 0))), .dat true 1 [], .dat true 1 [], .dat true 9 [], .dat true 1 [], .dat true 1 [], .dat true 1 [], .dat true 4 [], .arr (some 92) 2 [.agg [.ptr 9 1 0 0, .own 10 k 0 k]], .dead, .box (.int .i64 fr), .box (.int .i64 n), .dat true 1 (ints M), .dat true 1 (ints Z), .dat true 1 []]) (fun i => ∀ j (h : j < Z.length), j < i → inR fr n Z[j] = false) (by simp) (fun j _ h => absurd h (Nat.not_lt_zero j)) fun i hi hI => ?_
  by_cases hlt : i < Z.length
  · have g1 : (i : Int) < Z.length := by omega
    have g2 : Z[i]? = some Z[i] := List.getElem?_eq_getElem hlt
    have w1 : IntKind.i64.wrap ((i : Int) + 1) = (i : Int) + 1 := wrap_id (by omega) (by omega)
    have v1 := v Z[i]
    cases hm : inR fr n Z[i] with
    | true =>
      rw [hm] at v1
      have hfi : Z.findIdx? (inR fr n) = some i := by
        rw [List.findIdx?_eq_some_iff_getElem]
        exact ⟨hlt, hm, fun j hj => by simpa using hI j (by omega) hj⟩
      rw [hfi] at hR
      simp only at hR
      subst hR
      (repeat (first
    | (apply is_ok; (case hw => simp [g1, g2, hlt, v1]); (case he => simp [g1, g2, hlt, v1]; exact is_rfl))
    | (apply op_no; (case hw => simp [g1, g2, hlt, v1]))
    | refine op_nil ?_ | refine next_normal ?_ | refine go_seq ?_ | refine go_region ?_ | refine go_skip ?_ | refine go_block ?_ | refine inb_normal ?_
    | (apply go_yes; (case hc => simp [g1, g2, hlt, v1])) | (apply go_no; (case hc => simp [g1, g2, hlt, v1]))
    | refine go_exit ?_ | refine next_exit ?_ | refine inb_here ?_ | refine inb_past (by decide) ?_ | refine go_ret ?_ | refine next_ret ?_ | refine inb_ret ?_))
      (apply ends_ok; (case h1 => simp; exact is_rfl); (case h2 => simp; exact is_rfl))
      simp
    | false =>
      rw [hm] at v1
      (repeat (first
    | (apply is_ok; (case hw => simp [g1, g2, hlt, v1, w1]); (case he => simp [g1, g2, hlt, v1, w1]; exact is_rfl))
    | (apply op_no; (case hw => simp [g1, g2, hlt, v1, w1]))
    | refine op_nil ?_ | refine next_normal ?_ | refine go_seq ?_ | refine go_region ?_ | refine go_skip ?_ | refine go_block ?_ | refine inb_normal ?_
    | (apply go_yes; (case hc => simp [g1, g2, hlt, v1, w1])) | (apply go_no; (case hc => simp [g1, g2, hlt, v1, w1]))
    | refine go_exit ?_ | refine next_exit ?_ | refine inb_here ?_ | refine inb_past (by decide) ?_ | refine go_ret ?_ | refine next_ret ?_ | refine inb_ret ?_))
      exact ⟨hlt, by simp [w1], fun j h hj => by
        rcases Nat.lt_or_ge j i with h1 | h1
        · exact hI j h h1
        · have : j = i := by omega
          subst this
          exact hm⟩
  · have g1 : ¬ (i : Int) < Z.length := by omega
    have hfi : Z.findIdx? (inR fr n) = none := by
      rw [List.findIdx?_eq_none_iff]
      intro y hy
      obtain ⟨j, hj, rfl⟩ := List.mem_iff_getElem.1 hy
      exact hI j hj (by omega)
    rw [hfi] at hR
    simp only at hR
    subst hR
    (repeat (first
    | (apply is_ok; (case hw => simp [g1]); (case he => simp [g1]; exact is_rfl))
    | (apply op_no; (case hw => simp [g1]))
    | refine op_nil ?_ | refine next_normal ?_ | refine go_seq ?_ | refine go_region ?_ | refine go_skip ?_ | refine go_block ?_ | refine inb_normal ?_
    | (apply go_yes; (case hc => simp [g1])) | (apply go_no; (case hc => simp [g1]))
    | refine go_exit ?_ | refine next_exit ?_ | refine inb_here ?_ | refine inb_past (by decide) ?_ | refine go_ret ?_ | refine next_ret ?_ | refine inb_ret ?_))
    (apply ends_ok; (case h1 => simp; exact is_rfl); (case h2 => simp; exact is_rfl))
    simp
end

theorem kept_step {q : Int → Bool} {Z : List Int} {j : Nat} (h : j < Z.length) : (Z.take (j + 1)).filter q = (Z.take j).filter q ++ (if q Z[j] = true then [Z[j]] else []) := by
  rw [List.take_succ_eq_append_getElem h, List.filter_append]
  cases hq : q Z[j] <;> simp [hq]

set_option maxHeartbeats 1000000 in
theorem Del_eq (s : Sys) (k L : Nat) (fr n : Int) (M : List Int) (hf : 0 ≤ fr ∧ fr ≤ 1000000000) (hn : 0 ≤ n ∧ n ≤ 1000000000) (Z : List Int) (hl : Z.length ≤ 1000000) :
    bodyW DC 35 [.own 14 Z.length 0 Z.length, .fn 37 [.ptr 11 1 0 0, .ptr 12 1 0 0]] [.box (.agg (s.cw (.own 13 L 0 L) (.sl (ints s.bad)) (.sl (strs s.S)) (.sl (ints s.B)))), .box (.agg (zO (.own 2 0 0 0) (.own 3 0 0 0) (.own 4 0 0 0) (.own 5 0 0 0) (.own 6 0 0 0) (.own 7 0 0 0) (.own 8 0 0 0))), .dat true 1 [], .dat true 1 [], .dat true 9 [], .dat true 1 [], .dat true 1 [], .dat true 1 [], .dat true 4 [], .arr (some 92) 2 [.agg [.ptr 9 1 0 0, .own 10 k 0 k]], .dead, .box (.int .i64 fr), .box (.int .i64 n), .dat true 1 (ints M), .dat true 1 (ints Z)] =
    some (.own 14 Z.length 0 (Z.filter fun a => !inR fr n a).length, [.box (.agg (s.cw (.own 13 L 0 L) (.sl (ints s.bad)) (.sl (strs s.S)) (.sl (ints s.B)))), .box (.agg (zO (.own 2 0 0 0) (.own 3 0 0 0) (.own 4 0 0 0) (.own 5 0 0 0) (.own 6 0 0 0) (.own 7 0 0 0) (.own 8 0 0 0))), .dat true 1 [], .dat true 1 [], .dat true 9 [], .dat true 1 [], .dat true 1 [], .dat true 1 [], .dat true 4 [], .arr (some 92) 2 [.agg [.ptr 9 1 0 0, .own 10 k 0 k]], .dead, .box (.int .i64 fr), .box (.int .i64 n), .dat true 1 (ints M), .dat true 1 (ints ((Z.filter fun a => !inR fr n a) ++ List.replicate (Z.length - (Z.filter fun a => !inR fr n a).length) 0))]) := by
  have v := in1_eq s (.ptr 9 1 0 0) rfl k L fr n M hf hn
  have v1 := inIdx_eq s (.ptr 9 1 0 0) rfl k L fr n M hf hn Z hl
  unfold idxR at v1
  cases hc : Z.findIdx? (inR fr n) with
  | none =>
    rw [hc] at v1
    rw [List.findIdx?_eq_none_iff] at hc
    have hk : (Z.filter fun a => !inR fr n a) = Z := by
      rw [List.filter_eq_self]
      intro a ha
      simp [hc a ha]
    rw [hk, Nat.sub_self, List.replicate_zero, List.append_nil]
    (refine gives_iff ?_; refine go_func Tryz.f35 rfl rfl (by simp [Tryz.f35]) ?_; dsimp only [codeL, Tryz.f35, scL, sopsL, guardL, dstAt, loopKey])
    (repeat (first
    | (apply is_ok; (case hw => simp [v1]); (case he => simp [v1]; exact is_rfl))
    | (apply op_no; (case hw => simp [v1]))
    | refine op_nil ?_ | refine next_normal ?_ | refine go_seq ?_ | refine go_region ?_ | refine go_skip ?_ | refine go_block ?_ | refine inb_normal ?_
    | (apply go_yes; (case hc => simp [v1])) | (apply go_no; (case hc => simp [v1]))
    | refine go_exit ?_ | refine next_exit ?_ | refine inb_here ?_ | refine inb_past (by decide) ?_ | refine go_ret ?_ | refine next_ret ?_ | refine inb_ret ?_))
    (apply ends_ok; (case h1 => simp; exact is_rfl); (case h2 => simp; exact is_rfl))
    simp
  | some j0 =>
    rw [hc] at v1
    rw [List.findIdx?_eq_some_iff_getElem] at hc
    obtain ⟨hj0, hd0, hmin⟩ := hc
    have hk0 : (Z.take (j0 + 1)).filter (fun a => !inR fr n a) = Z.take j0 := by
      rw [kept_step hj0, hd0]
      simp only [Bool.not_true, Bool.false_eq_true, if_false, List.append_nil]
      rw [List.filter_eq_self]
      intro a ha
      obtain ⟨m, hm, rfl⟩ := List.mem_iff_getElem.1 ha
      rw [List.length_take] at hm
      rw [List.getElem_take]
      simpa using hmin m (by omega)
    have w0 : IntKind.i64.wrap ((j0 : Int) + 1) = (j0 : Int) + 1 := wrap_id (by omega) (by omega)
    have ne1 : ¬ (j0 : Int) = -1 := by omega
    (refine gives_iff ?_; refine go_func Tryz.f35 rfl rfl (by simp [Tryz.f35]) ?_; dsimp only [codeL, Tryz.f35, scL, sopsL, guardL, dstAt, loopKey])
    (repeat (first
    | (apply is_ok; (case hw => simp [v1, w0, ne1]); (case he => simp [v1, w0, ne1]; exact is_rfl))
    | (apply op_no; (case hw => simp [v1, w0, ne1]))
    | refine op_nil ?_ | refine next_normal ?_ | refine go_seq ?_ | refine go_region ?_ | refine go_skip ?_ | refine go_block ?_ | refine inb_normal ?_
    | (apply go_yes; (case hc => simp [v1, w0, ne1])) | (apply go_no; (case hc => simp [v1, w0, ne1]))
    | refine go_exit ?_ | refine next_exit ?_ | refine inb_here ?_ | refine inb_past (by decide) ?_ | refine go_ret ?_ | refine next_ret ?_ | refine inb_ret ?_))
    refine go_while (σ := Nat × List Int) (fun t => [(0, .own 14 Z.length 0 Z.length), (1, .fn 37 [.ptr 11 1 0 0, .ptr 12 1 0 0]), (5, .int .i64 ((((Z.take t.1).filter fun a => !inR fr n a).length : Nat) : Int)), (6, .int .i64 (t.1 : Int))])
      (fun t => [.box (.agg (s.cw (.own 13 L 0 L) (.sl (ints s.bad)) (.sl (strs s.S)) (.sl (ints s.B)))), .box (.agg (zO (.own 2 0 0 0) (.own 3 0 0 0) (.own 4 0 0 0) (.own 5 0 0 0) (.own 6 0 0 0) (.own 7 0 0 0) (.own 8 0 0 0))), .dat true 1 [], .dat true 1 [], .dat true 9 [], .dat true 1 [], .dat true 1 [], .dat true 1 [], .dat true 4 [], .arr (some 92) 2 [.agg [.ptr 9 1 0 0, .own 10 k 0 k]], .dead, .box (.int .i64 fr), .box (.int .i64 n), .dat true 1 (ints M), .dat true 1 (ints t.2)])
      (fun t => t.1 ≤ Z.length ∧ t.2.length = Z.length ∧ t.2.take ((Z.take t.1).filter fun a => !inR fr n a).length = (Z.take t.1).filter (fun a => !inR fr n a) ∧ t.2.drop t.1 = Z.drop t.1)
      (fun t => Z.length - t.1) (j0 + 1, Z) (by simp [hk0, Nat.min_eq_left (Nat.le_of_lt hj0)]) ⟨by omega, rfl, by rw [hk0]; simp, rfl⟩ fun ⟨j, T⟩ ⟨hj, hT, hk, hd⟩ => ?_
    simp only at hj hT hk hd ⊢
    obtain ⟨c, hcn⟩ : ∃ c, c = ((Z.take j).filter fun a => !inR fr n a).length := ⟨_, rfl⟩
    have hcj : c ≤ j := by rw [hcn]; exact Nat.le_trans (List.length_filter_le ..) (by rw [List.length_take]; omega)
    rw [← hcn] at hk ⊢
    by_cases hlt : j < Z.length
    · have g1 : (j : Int) < Z.length := by omega
      have hjT : j < T.length := by omega
      have e1 : T[j] = Z[j] := by
        have h1 := List.getElem_drop (xs := T) (i := j) (j := 0) (h := by simp; omega)
        have h2 := List.getElem_drop (xs := Z) (i := j) (j := 0) (h := by simp; omega)
        simp only [Nat.add_zero] at h1 h2
        rw [← h1, ← h2]
        simp only [hd]
      have g2 : T[j]? = some Z[j] := by rw [List.getElem?_eq_getElem hjT, e1]
      have w1 : IntKind.i64.wrap ((j : Int) + 1) = (j : Int) + 1 := wrap_id (by omega) (by omega)
      have w2 : IntKind.i64.wrap ((c : Int) + 1) = (c : Int) + 1 := wrap_id (by omega) (by omega)
      have hcl : c < Z.length := by omega
      have g3 : (c : Int) < Z.length := by omega
      have hcT : c < T.length := by omega
      have g4 : T[c]? = some T[c] := List.getElem?_eq_getElem hcT
      have v2 := v T Z[j]
      have hdd : T.drop (j + 1) = Z.drop (j + 1) := by
        have := congrArg (List.drop 1) hd
        rw [List.drop_drop, List.drop_drop] at this
        exact this
      cases hm : inR fr n Z[j] with
      | true =>
        rw [hm] at v2
        have hks : (Z.take (j + 1)).filter (fun a => !inR fr n a) = (Z.take j).filter fun a => !inR fr n a := by rw [kept_step hlt, hm]; simp
        (repeat (first
    | (apply is_ok; (case hw => simp [g1, g2, e1, hlt, hT, v2, w1]); (case he => simp [g1, g2, e1, hlt, hT, v2, w1]; exact is_rfl))
    | (apply op_no; (case hw => simp [g1, g2, e1, hlt, hT, v2, w1]))
    | refine op_nil ?_ | refine next_normal ?_ | refine go_seq ?_ | refine go_region ?_ | refine go_skip ?_ | refine go_block ?_ | refine inb_normal ?_
    | (apply go_yes; (case hc => simp [g1, g2, e1, hlt, hT, v2, w1])) | (apply go_no; (case hc => simp [g1, g2, e1, hlt, hT, v2, w1]))
    | refine go_exit ?_ | refine next_exit ?_ | refine inb_here ?_ | refine inb_past (by decide) ?_ | refine go_ret ?_ | refine next_ret ?_ | refine inb_ret ?_))
        exact ⟨(j + 1, T), by simp [w1, hks, ← hcn], by show Z.length - (j + 1) < Z.length - j; omega, by show j + 1 ≤ _; omega, hT, by show T.take _ = _; rw [hks, ← hcn]; exact hk, hdd⟩
      | false =>
        rw [hm] at v2
        have hks : (Z.take (j + 1)).filter (fun a => !inR fr n a) = ((Z.take j).filter fun a => !inR fr n a) ++ [Z[j]] := by rw [kept_step hlt, hm]; simp
        (repeat (first
    | (apply is_ok; (case hw => simp [g1, g2, g3, g4, e1, hlt, hT, v2, w1, w2, hcl, hcT]); (case he => simp [g1, g2, g3, g4, e1, hlt, hT, v2, w1, w2, hcl, hcT]; exact is_rfl))
    | (apply op_no; (case hw => simp [g1, g2, g3, g4, e1, hlt, hT, v2, w1, w2, hcl, hcT]))
    | refine op_nil ?_ | refine next_normal ?_ | refine go_seq ?_ | refine go_region ?_ | refine go_skip ?_ | refine go_block ?_ | refine inb_normal ?_
    | (apply go_yes; (case hc => simp [g1, g2, g3, g4, e1, hlt, hT, v2, w1, w2, hcl, hcT])) | (apply go_no; (case hc => simp [g1, g2, g3, g4, e1, hlt, hT, v2, w1, w2, hcl, hcT]))
    | refine go_exit ?_ | refine next_exit ?_ | refine inb_here ?_ | refine inb_past (by decide) ?_ | refine go_ret ?_ | refine next_ret ?_ | refine inb_ret ?_))
        refine ⟨(j + 1, T.set c Z[j]), by simp [w1, w2, hks, ← hcn, List.map_set], by show Z.length - (j + 1) < Z.length - j; omega, by show j + 1 ≤ _; omega, by show (T.set c Z[j]).length = _; simp [hT], ?_, ?_⟩
        · show (T.set c Z[j]).take _ = _
          rw [hks, List.length_append, ← hcn, List.length_singleton, List.take_succ_eq_append_getElem (by simp; omega), List.getElem_set_self, List.take_set_of_le (Nat.le_refl _), hk]
        · show (T.set c Z[j]).drop (j + 1) = _
          rw [List.drop_set_of_lt (by omega), hdd]
    · have : j = Z.length := by omega
      subst this
      rw [List.take_length] at hcn hk
      rw [← hcn]
      have g1 : ¬ (Z.length : Int) < Z.length := by omega
      have hcz : c ≤ Z.length := hcj
      have hci : (c : Int) ≤ Z.length := by omega
      have hkk : Z.filter (fun a => !inR fr n a) = T.take c := hk.symm
      rw [hkk]
      have hTd : T.drop Z.length = [] := List.drop_eq_nil_of_le (by omega)
      have ht1 : c + (Z.length - c) = Z.length := by omega
      (repeat (first
    | (apply is_ok; (case hw => simp [g1, hT, hcz, hci, ht1]); (case he => simp [g1, hT, hcz, hci, ht1]; exact is_rfl))
    | (apply op_no; (case hw => simp [g1, hT, hcz, hci, ht1]))
    | refine op_nil ?_ | refine next_normal ?_ | refine go_seq ?_ | refine go_region ?_ | refine go_skip ?_ | refine go_block ?_ | refine inb_normal ?_
    | (apply go_yes; (case hc => simp [g1, hT, hcz, hci, ht1])) | (apply go_no; (case hc => simp [g1, hT, hcz, hci, ht1]))
    | refine go_exit ?_ | refine next_exit ?_ | refine inb_here ?_ | refine inb_past (by decide) ?_ | refine go_ret ?_ | refine next_ret ?_ | refine inb_ret ?_))
      (apply ends_ok; (case h1 => simp; exact is_rfl); (case h2 => simp; exact is_rfl))
      simp [List.map_take, ofVal, hTd, hT]
end Go.Abs

namespace Go.Abs
open Go.Proofs
set_option maxRecDepth 100000
set_option linter.unusedSimpArgs false
set_option linter.unusedVariables false

theorem In_no (s : Sys) (k : Int) (h : imgB s.ps k true = false) : bodyW DC 8 [.agg s.cells, .int .i64 k] [] = some (.tuple [.agg zN, .int .i64 1], []) := by
  have v1 := swImage_eq s k true
  rw [h] at v1
  rw [s.cells_cw] at v1 ⊢
  (refine gives_iff ?_; refine go_funcF DF8 Tryz.f8 rfl DF8_eq rfl (by simp [Tryz.f8]) ?_; dsimp only [codeLF, Tryz.f8, scLF, DF8, sopsL, guardL, dstAt, loopKey, dreduceIte, Nat.reduceEqDiff])
  (repeat (first
    | (apply is_ok; (case hw => simp [v1]); (case he => simp [v1]; exact is_rfl))
    | (apply op_no; (case hw => simp [v1]))
    | refine op_nil ?_ | refine next_normal ?_ | refine go_seq ?_ | refine go_region ?_ | refine go_skip ?_ | refine go_block ?_ | refine inb_normal ?_
    | refine go_regionF ?_ | refine opF_nil (by simp [v1]) ?_ | (apply opF_no; (case hw => simp [v1]))
    | (apply fs_same; (case hn => rfl); (case hw => simp [v1]); (case he => simp [v1]; exact is_rfl))
    | (apply fs_free; (case hw => simp [v1]); (case he => simp [v1]; exact is_rfl); (case hp => simp [v1]))
    | (apply fs_step; (case hn => rfl); (case hw => simp [v1]); (case he => simp [v1]; exact is_rfl); (case ho => simp [v1]))
    | (apply go_yes; (case hc => simp [v1])) | (apply go_no; (case hc => simp [v1]))
    | refine go_exit ?_ | refine next_exit ?_ | refine inb_here ?_ | refine inb_past (by decide) ?_ | refine go_ret ?_ | refine next_ret ?_ | refine inb_ret ?_))
  (apply ends_ok; (case h1 => simp; exact is_rfl); (case h2 => simp; exact is_rfl))
  simp

/-- The first sectors of a process, one after the other. -/
def catS (S : List (List UInt8)) (b i : Nat) : List UInt8 := (List.range i).flatMap fun j => S.getD (b + j) []
theorem catS_succ (S : List (List UInt8)) (b i : Nat) : catS S b (i + 1) = catS S b i ++ S.getD (b + i) [] := by simp [catS, List.range_succ]

theorem swp_in {s : Sys} (h : Fine s) {p : Pr} (hp : p ∈ s.ps) (h1 : hasP p) (h2 : p.swd = true) : inP s.sw (p.base, secN p.blk) ∧ 0 ≤ p.base ∧ p.base ≤ 1048576 ∧ 1 ≤ p.blk ∧ p.blk ≤ 1048576 ∧ p.base + secN p.blk ≤ s.S.length := by
  have hu := h.right.2.2.2.2 p hp h1
  have hm : (p.base, secN p.blk) ∈ swpL s.ps := List.mem_map.2 ⟨p, List.mem_filter.2 ⟨hp, by simp [h1, h2]⟩, rfl⟩
  obtain ⟨j, hj, he⟩ := List.mem_iff_getElem.1 hm
  have hi := (h.swap j hj).1
  rw [he] at hi
  have c := h.right.2.2.2.1
  have h3 := h1.2
  have u1 := hu.1
  have u2 := hu.2.1
  have u4 := hu.2.2.2
  have h7 := secN_bound h3 u4
  unfold inP at hi
  dsimp only at *
  have h5 : 0 < s.sw.2 := by omega
  have h6 : ¬ (s.S.length : Int) < s.sw.1 + s.sw.2 := fun h => c ⟨h5, h⟩
  exact ⟨hi, u1, u2, h3, u4, by omega⟩

section
variable (s : Sys) (hs : Fine s) (i : Nat) (p : Pr) (hp : s.ps[i]? = some p) (h1 : hasP p) (h2 : p.swd = true)
include hs hp h1 h2
theorem In_full (hf : fitN (coreL s.ps) s.co p.blk = none) : bodyW DC 8 [.agg s.cells, .int .i64 i] [] = some (.tuple [.agg zN, .int .i64 26], []) := by
  have hps := s.hps
  have hpm := List.mem_of_getElem? hp
  have hi := (List.getElem?_eq_some_iff.1 hp).1
  have g1 : i < 8 := by omega
  have g2 : (i : Int) < 8 := by omega
  have v1 := swImage_eq s i true
  rw [imgB_iff.2 ⟨i, p, rfl, hp, h1, h2⟩] at v1
  have l2 := coreL_len s.ps
  have v3 := Core_eq s
  have v4 := Fit_eq' (coreL s.ps) (by omega) (fun y hy => mem_core hs.right.2.2.2.2 hy) s.co hs.right.1 p.blk
  unfold fitV at v4
  rw [hf] at v4
  rw [s.cells_cw] at v1 ⊢
  (refine gives_iff ?_; refine go_funcF DF8 Tryz.f8 rfl DF8_eq rfl (by simp [Tryz.f8]) ?_; dsimp only [codeLF, Tryz.f8, scLF, DF8, sopsL, guardL, dstAt, loopKey, dreduceIte, Nat.reduceEqDiff])
  (repeat (first
    | (apply is_ok; (case hw => simp [v1, v3, v4, g1, g2, hp, exV]); (case he => simp [v1, v3, v4, g1, g2, hp, exV]; exact is_rfl))
    | (apply op_no; (case hw => simp [v1, v3, v4, g1, g2, hp, exV]))
    | refine op_nil ?_ | refine next_normal ?_ | refine go_seq ?_ | refine go_region ?_ | refine go_skip ?_ | refine go_block ?_ | refine inb_normal ?_
    | refine go_regionF ?_ | refine opF_nil (by simp [v1, v3, v4, g1, g2, hp, exV]) ?_ | (apply opF_no; (case hw => simp [v1, v3, v4, g1, g2, hp, exV]))
    | (apply fs_same; (case hn => rfl); (case hw => simp [v1, v3, v4, g1, g2, hp, exV]); (case he => simp [v1, v3, v4, g1, g2, hp, exV]; exact is_rfl))
    | (apply fs_free; (case hw => simp [v1, v3, v4, g1, g2, hp, exV]); (case he => simp [v1, v3, v4, g1, g2, hp, exV]; exact is_rfl); (case hp => simp [v1, v3, v4, g1, g2, hp, exV]))
    | (apply fs_step; (case hn => rfl); (case hw => simp [v1, v3, v4, g1, g2, hp, exV]); (case he => simp [v1, v3, v4, g1, g2, hp, exV]; exact is_rfl); (case ho => simp [v1, v3, v4, g1, g2, hp, exV]))
    | (apply go_yes; (case hc => simp [v1, v3, v4, g1, g2, hp, exV])) | (apply go_no; (case hc => simp [v1, v3, v4, g1, g2, hp, exV]))
    | refine go_exit ?_ | refine next_exit ?_ | refine inb_here ?_ | refine inb_past (by decide) ?_ | refine go_ret ?_ | refine next_ret ?_ | refine inb_ret ?_))
  (apply ends_ok; (case h1 => simp; exact is_rfl); (case h2 => simp; exact is_rfl))
  simp

set_option maxHeartbeats 4000000 in
theorem In_err (hw : ∀ q ∈ s.ps, q.Wf) (hR : RightP s.S s.B) (n0 : Int) (hf : fitN (coreL s.ps) s.co p.blk = some n0) (j0 : Nat) (hj0 : (j0 : Int) < secN p.blk) (he : (readS s.S s.B (p.base + j0)).2 ≠ 0) (hmin : ∀ j : Nat, j < j0 → (readS s.S s.B (p.base + j)).2 = 0) :
    bodyW DC 8 [.agg s.cells, .int .i64 i] [] = some (.tuple [.agg zN, .int .i64 (readS s.S s.B (p.base + j0)).2], []) := by
  have hps := s.hps
  have hpm := List.mem_of_getElem? hp
  have hi := (List.getElem?_eq_some_iff.1 hp).1
  have g1 : i < 8 := by omega
  have g2 : (i : Int) < 8 := by omega
  have v1 := swImage_eq s i true
  rw [imgB_iff.2 ⟨i, p, rfl, hp, h1, h2⟩] at v1
  have l2 := coreL_len s.ps
  have v2 := Sectors_eq p.blk (hw p hpm).2.2
  have v3 := Core_eq s
  have v4 := Fit_eq' (coreL s.ps) (by omega) (fun y hy => mem_core hs.right.2.2.2.2 hy) s.co hs.right.1 p.blk
  unfold fitV at v4
  rw [hf] at v4
  obtain ⟨c1, c2, c3, c4, c5, c6⟩ := swp_in hs hpm h1 h2
  obtain ⟨s1, s2, s3⟩ := secN_bound c4 c5
  obtain ⟨ba, hba⟩ := Int.eq_ofNat_of_zero_le c2
  obtain ⟨n, hn2⟩ := Int.eq_ofNat_of_zero_le (by omega : 0 ≤ secN p.blk)
  rw [hn2] at v2 hj0
  have hSl := hs.S
  have hrd : ∀ j : Nat, j < n → (readS s.S s.B (p.base + j)).2 = 0 → readS s.S s.B ((ba : Int) + j) = (s.S.getD (ba + j) [], 0) ∧ (s.S.getD (ba + j) []).length = 128 := fun j hj h0 => by
    rw [hba] at h0
    unfold readS at h0 ⊢
    rw [if_pos (by omega)] at h0 ⊢
    split at h0
    · cases h0
    · rename_i hb
      rw [if_neg hb, show ((ba : Int) + j).toNat = ba + j by omega]
      have hlt : ba + j < s.S.length := by omega
      exact ⟨rfl, by rw [List.getD_eq_getElem?_getD, List.getElem?_eq_getElem hlt]; exact hR.2.2.1 _ (List.getElem_mem hlt)⟩
  rw [hba] at he
  generalize hE : (readS s.S s.B (p.base + j0)).2 = E
  rw [hba] at hE
  rw [hE] at he
  have vr := fun k => Read_eq s.S s.B (by have := hs.B; unfold maxLen; omega) k
  rw [s.cells_cw] at v1 ⊢
  (refine gives_iff ?_; refine go_funcF DF8 Tryz.f8 rfl DF8_eq rfl (by simp [Tryz.f8]) ?_; dsimp only [codeLF, Tryz.f8, scLF, DF8, sopsL, guardL, dstAt, loopKey, dreduceIte, Nat.reduceEqDiff])
  (repeat (first
    | (apply is_ok; (case hw => simp [v1, v2, v3, v4, g1, g2, hp, exV]); (case he => simp [v1, v2, v3, v4, g1, g2, hp, exV]; exact is_rfl))
    | (apply op_no; (case hw => simp [v1, v2, v3, v4, g1, g2, hp, exV]))
    | refine op_nil ?_ | refine next_normal ?_ | refine go_seq ?_ | refine go_region ?_ | refine go_skip ?_ | refine go_block ?_ | refine inb_normal ?_
    | refine go_regionF ?_ | refine opF_nil (by simp [v1, v2, v3, v4, g1, g2, hp, exV]) ?_ | (apply opF_no; (case hw => simp [v1, v2, v3, v4, g1, g2, hp, exV]))
    | (apply fs_same; (case hn => rfl); (case hw => simp [v1, v2, v3, v4, g1, g2, hp, exV]); (case he => simp [v1, v2, v3, v4, g1, g2, hp, exV]; exact is_rfl))
    | (apply fs_free; (case hw => simp [v1, v2, v3, v4, g1, g2, hp, exV]); (case he => simp [v1, v2, v3, v4, g1, g2, hp, exV]; exact is_rfl); (case hp => simp [v1, v2, v3, v4, g1, g2, hp, exV]))
    | (apply fs_step; (case hn => rfl); (case hw => simp [v1, v2, v3, v4, g1, g2, hp, exV]); (case he => simp [v1, v2, v3, v4, g1, g2, hp, exV]; exact is_rfl); (case ho => simp [v1, v2, v3, v4, g1, g2, hp, exV]))
    | (apply go_yes; (case hc => simp [v1, v2, v3, v4, g1, g2, hp, exV])) | (apply go_no; (case hc => simp [v1, v2, v3, v4, g1, g2, hp, exV]))
    | refine go_exit ?_ | refine next_exit ?_ | refine inb_here ?_ | refine inb_past (by decide) ?_ | refine go_ret ?_ | refine next_ret ?_ | refine inb_ret ?_))
  refine go_count j0 (fun j => [(2, .ptr 0 1 0 0), (4, .ptr 1 1 0 0), (6, .ptr 0 1 0 (110 + i * 29)), (7, .int .i64 n0), (9, .ptr 9 1 0 0), (45, .int .i64 n), (46, .int .i64 j)])
    (fun j => [.box (.agg (s.cw (.sl (ints s.mem)) (.sl (ints s.bad)) (.sl (strs s.S)) (.sl (ints s.B)))), .box (.agg (zO (.own 2 0 0 0) (.own 3 0 0 0) (.own 4 0 0 0) (.own 5 0 0 0) (.own 6 0 0 0) (.own 7 0 0 0) (.own 8 0 0 0))), .dat true 1 [], .dat true 1 [], .dat true 9 [], .dat true 1 [], .dat true 1 [], .dat true 1 [], .dat true 4 [], .arr (some 92) 2 [.agg [bldI j, .own 10 (catS s.S ba j).length 0 (catS s.S ba j).length]], .arr (some 5) 1 (u8s (catS s.S ba j))]) (fun j => (catS s.S ba j).length = 128 * j) (by simp [catS, u8s, bldI]) rfl fun j hj hJ => ?_
  have k1 : (j : Int) < n := by omega
  have k2 : IntKind.i64.wrap ((j : Int) + 1) = (j : Int) + 1 := wrap_id (by omega) (by omega)
  have k5 : IntKind.i64.wrap ((ba : Int) + (j : Int)) = (ba : Int) + (j : Int) := wrap_id (by omega) (by omega)
  by_cases hlt : j < j0
  · obtain ⟨r1, r2⟩ := hrd j (by omega) (hmin j hlt)
    have v5 := vr ((ba : Int) + j)
    rw [r1] at v5
    have v6 := WSi_eq s j (catS s.S ba j) (s.S.getD (ba + j) []) (by omega)
    have hc := catS_succ s.S ba j
    rw [hc]
    generalize catS s.S ba j = b at v6 hJ
    generalize s.S.getD (ba + j) [] = t at v5 v6 r2
    (repeat (first
    | (apply is_ok; (case hw => simp [k1, k2, k5, hp, hba, v5, v6]); (case he => simp [k1, k2, k5, hp, hba, v5, v6]; exact is_rfl))
    | (apply op_no; (case hw => simp [k1, k2, k5, hp, hba, v5, v6]))
    | refine op_nil ?_ | refine next_normal ?_ | refine go_seq ?_ | refine go_region ?_ | refine go_skip ?_ | refine go_block ?_ | refine inb_normal ?_
    | refine go_regionF ?_ | refine opF_nil (by simp [k1, k2, k5, hp, hba, v5, v6]) ?_ | (apply opF_no; (case hw => simp [k1, k2, k5, hp, hba, v5, v6]))
    | (apply fs_same; (case hn => rfl); (case hw => simp [k1, k2, k5, hp, hba, v5, v6]); (case he => simp [k1, k2, k5, hp, hba, v5, v6]; exact is_rfl))
    | (apply fs_free; (case hw => simp [k1, k2, k5, hp, hba, v5, v6]); (case he => simp [k1, k2, k5, hp, hba, v5, v6]; exact is_rfl); (case hp => simp [k1, k2, k5, hp, hba, v5, v6]))
    | (apply fs_step; (case hn => rfl); (case hw => simp [k1, k2, k5, hp, hba, v5, v6]); (case he => simp [k1, k2, k5, hp, hba, v5, v6]; exact is_rfl); (case ho => simp [k1, k2, k5, hp, hba, v5, v6]))
    | (apply go_yes; (case hc => simp [k1, k2, k5, hp, hba, v5, v6])) | (apply go_no; (case hc => simp [k1, k2, k5, hp, hba, v5, v6]))
    | refine go_exit ?_ | refine next_exit ?_ | refine inb_here ?_ | refine inb_past (by decide) ?_ | refine go_ret ?_ | refine next_ret ?_ | refine inb_ret ?_))
    exact ⟨hlt, by simp [k2, bldI], by rw [List.length_append, hJ, r2]; omega⟩
  · obtain rfl : j = j0 := by omega
    have v5 := vr ((ba : Int) + j)
    rw [hE] at v5
    generalize (readS s.S s.B ((ba : Int) + j)).1 = t at v5
    (repeat (first
    | (apply is_ok; (case hw => simp [k1, k5, hp, hba, v5, he]); (case he => simp [k1, k5, hp, hba, v5, he]; exact is_rfl))
    | (apply op_no; (case hw => simp [k1, k5, hp, hba, v5, he]))
    | refine op_nil ?_ | refine next_normal ?_ | refine go_seq ?_ | refine go_region ?_ | refine go_skip ?_ | refine go_block ?_ | refine inb_normal ?_
    | refine go_regionF ?_ | refine opF_nil (by simp [k1, k5, hp, hba, v5, he]) ?_ | (apply opF_no; (case hw => simp [k1, k5, hp, hba, v5, he]))
    | (apply fs_same; (case hn => rfl); (case hw => simp [k1, k5, hp, hba, v5, he]); (case he => simp [k1, k5, hp, hba, v5, he]; exact is_rfl))
    | (apply fs_free; (case hw => simp [k1, k5, hp, hba, v5, he]); (case he => simp [k1, k5, hp, hba, v5, he]; exact is_rfl); (case hp => simp [k1, k5, hp, hba, v5, he]))
    | (apply fs_step; (case hn => rfl); (case hw => simp [k1, k5, hp, hba, v5, he]); (case he => simp [k1, k5, hp, hba, v5, he]; exact is_rfl); (case ho => simp [k1, k5, hp, hba, v5, he]))
    | (apply go_yes; (case hc => simp [k1, k5, hp, hba, v5, he])) | (apply go_no; (case hc => simp [k1, k5, hp, hba, v5, he]))
    | refine go_exit ?_ | refine next_exit ?_ | refine inb_here ?_ | refine inb_past (by decide) ?_ | refine go_ret ?_ | refine next_ret ?_ | refine inb_ret ?_))
    (apply ends_ok; (case h1 => simp; exact is_rfl); (case h2 => simp; exact is_rfl))
    simp

/-- The bytes that a process gets back. -/
def inT (s : Sys) (p : Pr) : List UInt8 := (catS s.S p.base.toNat (secN p.blk).toNat).take (p.blk.toNat * 64)

set_option maxHeartbeats 4000000 in
theorem In_ok (hw : ∀ q ∈ s.ps, q.Wf) (hbl0 : s.bad.length ≤ 1024) (hR : RightP s.S s.B) (n0 : Int) (hf : fitN (coreL s.ps) s.co p.blk = some n0) (hmin : ∀ j : Nat, (j : Int) < secN p.blk → (readS s.S s.B (p.base + j)).2 = 0) :
    bodyW DC 8 [.agg s.cells, .int .i64 i] [] = some (.tuple [.agg ((s.setP i { p with base := n0, swd := false }).cw (.own 0 s.mem.length 0 s.mem.length) (.own 1 s.bad.length 0 (s.bad.filter fun a => !inR (n0 * 64) (p.blk * 64) a).length) (.sl (strs s.S)) (.sl (ints s.B))), .int .i64 0],
      [.dat true 1 (ints (storeN s.mem (n0.toNat * 64) (inT s p) (inT s p).length)), .dat true 1 (ints ((s.bad.filter fun a => !inR (n0 * 64) (p.blk * 64) a) ++ List.replicate (s.bad.length - (s.bad.filter fun a => !inR (n0 * 64) (p.blk * 64) a).length) 0))]) := by
  have hps := s.hps
  have hpm := List.mem_of_getElem? hp
  have hi := (List.getElem?_eq_some_iff.1 hp).1
  have g1 : i < 8 := by omega
  have g2 : (i : Int) < 8 := by omega
  have v1 := swImage_eq s i true
  rw [imgB_iff.2 ⟨i, p, rfl, hp, h1, h2⟩] at v1
  have l2 := coreL_len s.ps
  have v2 := Sectors_eq p.blk (hw p hpm).2.2
  have v3 := Core_eq s
  have v4 := Fit_eq' (coreL s.ps) (by omega) (fun y hy => mem_core hs.right.2.2.2.2 hy) s.co hs.right.1 p.blk
  unfold fitV at v4
  obtain ⟨c1, c2, c3, c4, c5, c6⟩ := swp_in hs hpm h1 h2
  have hroom := ((fit_least (l := coreL s.ps) (w := s.co) (k := p.blk) (by omega)).1 n0 hf).1
  rw [hf] at v4
  obtain ⟨s1, s2, s3⟩ := secN_bound c4 c5
  obtain ⟨ba, hba⟩ := Int.eq_ofNat_of_zero_le c2
  obtain ⟨bl, hbl⟩ := Int.eq_ofNat_of_zero_le (by omega : 0 ≤ p.blk)
  obtain ⟨n, hn2⟩ := Int.eq_ofNat_of_zero_le (by omega : 0 ≤ secN p.blk)
  have co1 := hs.right.1.1
  have ro1 := hroom.2.1
  have ro2 := hroom.2.2
  obtain ⟨n1, hn1⟩ := Int.eq_ofNat_of_zero_le (by omega : 0 ≤ n0)
  subst hn1
  have cmem : ((s.co.1 + s.co.2) * 32 : Int) ≤ s.mem.length := by
    have c := hs.right.2.2.1
    have h5 : 0 < s.co.2 := by omega
    have h6 : ¬ (s.mem.length : Int) < (s.co.1 + s.co.2) * 32 := fun h => c ⟨h5, h⟩
    omega
  have hm := hs.mem
  rw [hn2] at v2 hmin
  have hSl := hs.S
  have hrd : ∀ j : Nat, j < n → readS s.S s.B ((ba : Int) + j) = (s.S.getD (ba + j) [], 0) ∧ (s.S.getD (ba + j) []).length = 128 := fun j hj => by
    have h0 := hmin j (by omega)
    rw [hba] at h0
    unfold readS at h0 ⊢
    rw [if_pos (by omega)] at h0 ⊢
    split at h0
    · cases h0
    · rename_i hb
      rw [if_neg hb, show ((ba : Int) + j).toNat = ba + j by omega]
      have hlt : ba + j < s.S.length := by omega
      exact ⟨rfl, by rw [List.getD_eq_getElem?_getD, List.getElem?_eq_getElem hlt]; exact hR.2.2.1 _ (List.getElem_mem hlt)⟩
  have vr := fun k => Read_eq s.S s.B (by have := hs.B; unfold maxLen; omega) k
  have ht0 : inT s p = (catS s.S ba n).take (bl * 64) := by unfold inT; rw [hn2, hba, hbl]; rfl
  rw [ht0]
  rw [s.cells_cw] at v1 ⊢
  rw [show ((n1 : Int)).toNat = n1 by omega]
  rw [show ((n1 : Int) * 64) = ((n1 * 64 : Nat) : Int) by omega, show p.blk * 64 = ((bl * 64 : Nat) : Int) by rw [hbl]; omega]
  obtain ⟨fr, hfr⟩ : ∃ fr, fr = n1 * 64 := ⟨_, rfl⟩
  obtain ⟨nb, hnb⟩ : ∃ nb, nb = bl * 64 := ⟨_, rfl⟩
  rw [← hfr, ← hnb]
  rw [hbl] at v2 v4
  (refine gives_iff ?_; refine go_funcF DF8 Tryz.f8 rfl DF8_eq rfl (by simp [Tryz.f8]) ?_; dsimp only [codeLF, Tryz.f8, scLF, DF8, sopsL, guardL, dstAt, loopKey, dreduceIte, Nat.reduceEqDiff])
  (repeat (first
    | (apply is_ok; (case hw => simp [v1, v2, v3, v4, g1, g2, hp, hbl, exV]); (case he => simp [v1, v2, v3, v4, g1, g2, hp, hbl, exV]; exact is_rfl))
    | (apply op_no; (case hw => simp [v1, v2, v3, v4, g1, g2, hp, hbl, exV]))
    | refine op_nil ?_ | refine next_normal ?_ | refine go_seq ?_ | refine go_region ?_ | refine go_skip ?_ | refine go_block ?_ | refine inb_normal ?_
    | refine go_regionF ?_ | refine opF_nil (by simp [v1, v2, v3, v4, g1, g2, hp, hbl, exV]) ?_ | (apply opF_no; (case hw => simp [v1, v2, v3, v4, g1, g2, hp, hbl, exV]))
    | (apply fs_same; (case hn => rfl); (case hw => simp [v1, v2, v3, v4, g1, g2, hp, hbl, exV]); (case he => simp [v1, v2, v3, v4, g1, g2, hp, hbl, exV]; exact is_rfl))
    | (apply fs_free; (case hw => simp [v1, v2, v3, v4, g1, g2, hp, hbl, exV]); (case he => simp [v1, v2, v3, v4, g1, g2, hp, hbl, exV]; exact is_rfl); (case hp => simp [v1, v2, v3, v4, g1, g2, hp, hbl, exV]))
    | (apply fs_step; (case hn => rfl); (case hw => simp [v1, v2, v3, v4, g1, g2, hp, hbl, exV]); (case he => simp [v1, v2, v3, v4, g1, g2, hp, hbl, exV]; exact is_rfl); (case ho => simp [v1, v2, v3, v4, g1, g2, hp, hbl, exV]))
    | (apply go_yes; (case hc => simp [v1, v2, v3, v4, g1, g2, hp, hbl, exV])) | (apply go_no; (case hc => simp [v1, v2, v3, v4, g1, g2, hp, hbl, exV]))
    | refine go_exit ?_ | refine next_exit ?_ | refine inb_here ?_ | refine inb_past (by decide) ?_ | refine go_ret ?_ | refine next_ret ?_ | refine inb_ret ?_))
  refine go_count n (fun j => [(2, .ptr 0 1 0 0), (4, .ptr 1 1 0 0), (6, .ptr 0 1 0 (110 + i * 29)), (7, .int .i64 n1), (9, .ptr 9 1 0 0), (45, .int .i64 n), (46, .int .i64 j)])
    (fun j => [.box (.agg (s.cw (.sl (ints s.mem)) (.sl (ints s.bad)) (.sl (strs s.S)) (.sl (ints s.B)))), .box (.agg (zO (.own 2 0 0 0) (.own 3 0 0 0) (.own 4 0 0 0) (.own 5 0 0 0) (.own 6 0 0 0) (.own 7 0 0 0) (.own 8 0 0 0))), .dat true 1 [], .dat true 1 [], .dat true 9 [], .dat true 1 [], .dat true 1 [], .dat true 1 [], .dat true 4 [], .arr (some 92) 2 [.agg [bldI j, .own 10 (catS s.S ba j).length 0 (catS s.S ba j).length]], .arr (some 5) 1 (u8s (catS s.S ba j))]) (fun j => (catS s.S ba j).length = 128 * j) (by simp [catS, u8s, bldI]) rfl fun j hj hJ => ?_
  have k2 : IntKind.i64.wrap ((j : Int) + 1) = (j : Int) + 1 := wrap_id (by omega) (by omega)
  have k5 : IntKind.i64.wrap ((ba : Int) + (j : Int)) = (ba : Int) + (j : Int) := wrap_id (by omega) (by omega)
  by_cases hlt : j < n
  · have k1 : (j : Int) < n := by omega
    obtain ⟨r1, r2⟩ := hrd j (by omega)
    have v5 := vr ((ba : Int) + j)
    rw [r1] at v5
    have v6 := WSi_eq s j (catS s.S ba j) (s.S.getD (ba + j) []) (by omega)
    have hc := catS_succ s.S ba j
    rw [hc]
    generalize catS s.S ba j = b at v6 hJ
    generalize s.S.getD (ba + j) [] = t at v5 v6 r2
    (repeat (first
    | (apply is_ok; (case hw => simp [k1, k2, k5, hp, hba, v5, v6]); (case he => simp [k1, k2, k5, hp, hba, v5, v6]; exact is_rfl))
    | (apply op_no; (case hw => simp [k1, k2, k5, hp, hba, v5, v6]))
    | refine op_nil ?_ | refine next_normal ?_ | refine go_seq ?_ | refine go_region ?_ | refine go_skip ?_ | refine go_block ?_ | refine inb_normal ?_
    | refine go_regionF ?_ | refine opF_nil (by simp [k1, k2, k5, hp, hba, v5, v6]) ?_ | (apply opF_no; (case hw => simp [k1, k2, k5, hp, hba, v5, v6]))
    | (apply fs_same; (case hn => rfl); (case hw => simp [k1, k2, k5, hp, hba, v5, v6]); (case he => simp [k1, k2, k5, hp, hba, v5, v6]; exact is_rfl))
    | (apply fs_free; (case hw => simp [k1, k2, k5, hp, hba, v5, v6]); (case he => simp [k1, k2, k5, hp, hba, v5, v6]; exact is_rfl); (case hp => simp [k1, k2, k5, hp, hba, v5, v6]))
    | (apply fs_step; (case hn => rfl); (case hw => simp [k1, k2, k5, hp, hba, v5, v6]); (case he => simp [k1, k2, k5, hp, hba, v5, v6]; exact is_rfl); (case ho => simp [k1, k2, k5, hp, hba, v5, v6]))
    | (apply go_yes; (case hc => simp [k1, k2, k5, hp, hba, v5, v6])) | (apply go_no; (case hc => simp [k1, k2, k5, hp, hba, v5, v6]))
    | refine go_exit ?_ | refine next_exit ?_ | refine inb_here ?_ | refine inb_past (by decide) ?_ | refine go_ret ?_ | refine next_ret ?_ | refine inb_ret ?_))
    exact ⟨hlt, by simp [k2, bldI], by rw [List.length_append, hJ, r2]; omega⟩
  · obtain rfl : j = n := by omega
    have k1 : ¬ (j : Int) < j := by omega
    have w1 : IntKind.i64.wrap ((n1 : Int) * 64) = (fr : Int) := by rw [wrap_id (by omega) (by omega)]; omega
    have w2 : IntKind.i64.wrap ((bl : Int) * 64) = (nb : Int) := by rw [wrap_id (by omega) (by omega)]; omega
    generalize catS s.S ba j = C at hJ ⊢
    have hjp : 0 < j := by omega
    have hjb : (j : Int) = bl / 2 + bl % 2 := by rw [← hn2, s3, hbl]
    have hCl : nb ≤ C.length := by omega
    have b1 : bldI j = .ptr 9 1 0 0 := by unfold bldI; rw [if_neg (by omega)]
    have hsp : spent 5 (u8s C) = .dead := by
      cases C with
      | nil => simp at hJ; omega
      | cons c C => rfl
    have v7 := Store_eq s.mem (by omega) hs.words fr (C.take nb) (by rw [List.length_take]; omega)
    have htl : (C.take nb).length = nb := by rw [List.length_take]; omega
    rw [htl] at v7 ⊢
    have v8 := Del_eq s C.length s.mem.length fr nb (storeN s.mem fr (C.take nb) nb) ⟨by omega, by omega⟩ ⟨by omega, by omega⟩ s.bad (by omega)
    have rb1 : s.bad.length * 8 ≤ room := by unfold room; omega
    have rb2 : s.bad.length ≤ room := by unfold room; omega
    have g5 : ∀ q : Pr, (s.ps.set i q)[i]? = some q := fun q => by rw [List.getElem?_set_self hi]
    have g6 : ∀ q : Pr, (s.setP i q).ps[i]? = some q := g5
    (repeat (first
    | (apply is_ok; (case hw => simp [k1, w1, w2, b1, hp, hbl, hsp, hCl, v7, v8, strX, cloneX, rb1, rb2, g5, g6, setP_setP]); (case he => simp [k1, w1, w2, b1, hp, hbl, hsp, hCl, v7, v8, strX, cloneX, rb1, rb2, g5, g6, setP_setP]; exact is_rfl))
    | (apply op_no; (case hw => simp [k1, w1, w2, b1, hp, hbl, hsp, hCl, v7, v8, strX, cloneX, rb1, rb2, g5, g6, setP_setP]))
    | refine op_nil ?_ | refine next_normal ?_ | refine go_seq ?_ | refine go_region ?_ | refine go_skip ?_ | refine go_block ?_ | refine inb_normal ?_
    | refine go_regionF ?_ | refine opF_nil (by simp [k1, w1, w2, b1, hp, hbl, hsp, hCl, v7, v8, strX, cloneX, rb1, rb2, g5, g6, setP_setP]) ?_ | (apply opF_no; (case hw => simp [k1, w1, w2, b1, hp, hbl, hsp, hCl, v7, v8, strX, cloneX, rb1, rb2, g5, g6, setP_setP]))
    | (apply fs_same; (case hn => rfl); (case hw => simp [k1, w1, w2, b1, hp, hbl, hsp, hCl, v7, v8, strX, cloneX, rb1, rb2, g5, g6, setP_setP]); (case he => simp [k1, w1, w2, b1, hp, hbl, hsp, hCl, v7, v8, strX, cloneX, rb1, rb2, g5, g6, setP_setP]; exact is_rfl))
    | (apply fs_free; (case hw => simp [k1, w1, w2, b1, hp, hbl, hsp, hCl, v7, v8, strX, cloneX, rb1, rb2, g5, g6, setP_setP]); (case he => simp [k1, w1, w2, b1, hp, hbl, hsp, hCl, v7, v8, strX, cloneX, rb1, rb2, g5, g6, setP_setP]; exact is_rfl); (case hp => simp [k1, w1, w2, b1, hp, hbl, hsp, hCl, v7, v8, strX, cloneX, rb1, rb2, g5, g6, setP_setP]))
    | (apply fs_step; (case hn => rfl); (case hw => simp [k1, w1, w2, b1, hp, hbl, hsp, hCl, v7, v8, strX, cloneX, rb1, rb2, g5, g6, setP_setP]); (case he => simp [k1, w1, w2, b1, hp, hbl, hsp, hCl, v7, v8, strX, cloneX, rb1, rb2, g5, g6, setP_setP]; exact is_rfl); (case ho => simp [k1, w1, w2, b1, hp, hbl, hsp, hCl, v7, v8, strX, cloneX, rb1, rb2, g5, g6, setP_setP]))
    | (apply go_yes; (case hc => simp [k1, w1, w2, b1, hp, hbl, hsp, hCl, v7, v8, strX, cloneX, rb1, rb2, g5, g6, setP_setP])) | (apply go_no; (case hc => simp [k1, w1, w2, b1, hp, hbl, hsp, hCl, v7, v8, strX, cloneX, rb1, rb2, g5, g6, setP_setP]))
    | refine go_exit ?_ | refine next_exit ?_ | refine inb_here ?_ | refine inb_past (by decide) ?_ | refine go_ret ?_ | refine next_ret ?_ | refine inb_ret ?_))
    (apply ends_ok; (case h1 => simp; exact is_rfl); (case h2 => simp; exact is_rfl))
    simp [hbl]
end
end Go.Abs

