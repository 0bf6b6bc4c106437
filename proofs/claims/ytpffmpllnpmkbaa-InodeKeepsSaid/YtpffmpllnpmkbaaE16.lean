/- Proved here: what functions of the program compute, over the evaluator. No condition but those that each theorem states. -/
import Derived.Test.YtpffmpllnpmkbaaE15
namespace Go.Abs
open Go.Proofs
set_option maxRecDepth 100000
set_option linter.unusedSimpArgs false
set_option linter.unusedVariables false

def usedB (S : List (List UInt8)) (B : List Int) (n : Int) : Bool := decide ((mapS S B).2 = 0) && (decide (0 ≤ n ∧ n < S.length) && bitB (mapS S B).1 n.toNat)

theorem Used_eq (S : List (List UInt8)) (B : List Int) (hB : B.length ≤ maxLen) (n : Int) : bodyW DC 26 [drv S B, .int .i64 n] [] = some (.bool (usedB S B n), []) := by
  unfold usedB
  by_cases h : (mapS S B).2 = 0
  case neg =>
    have hb := bits_no S B hB h
    generalize mapS S B = e at hb h
    (refine gives_iff ?_; refine go_func Try.f26 rfl rfl (by simp [Try.f26]) ?_; dsimp only [codeL, Try.f26, scL, sopsL, guardL, dstAt, loopKey])
    (repeat (first
    | (apply is_ok; (case hw => simp [hb, h]); (case he => simp [hb, h]; exact is_rfl))
    | (apply op_no; (case hw => simp [hb, h]))
    | refine op_nil ?_ | refine next_normal ?_ | refine go_seq ?_ | refine go_region ?_ | refine go_skip ?_ | refine go_block ?_ | refine inb_normal ?_
    | (apply go_yes; (case hc => simp [hb, h])) | (apply go_no; (case hc => simp [hb, h]))
    | refine go_exit ?_ | refine next_exit ?_ | refine inb_here ?_ | refine inb_past (by decide) ?_ | refine go_ret ?_ | refine next_ret ?_ | refine inb_ret ?_))
    (apply ends_ok; (case h1 => simp; exact is_rfl); (case h2 => simp; exact is_rfl))
    simp [h]
  have hb := bits_ok S B hB h
  obtain ⟨hv, hl⟩ := map_ok h
  have hv2 := vol_bounds hv
  generalize hm : mapS S B = e at hb h hl
  have hu : (u8s e.1).length = 128 := by simp [hl]
  by_cases h1 : 0 ≤ n
  case neg =>
    (refine gives_iff ?_; refine go_func Try.f26 rfl rfl (by simp [Try.f26]) ?_; dsimp only [codeL, Try.f26, scL, sopsL, guardL, dstAt, loopKey])
    (repeat (first
    | (apply is_ok; (case hw => simp [hb, h1]); (case he => simp [hb, h1]; exact is_rfl))
    | (apply op_no; (case hw => simp [hb, h1]))
    | refine op_nil ?_ | refine next_normal ?_ | refine go_seq ?_ | refine go_region ?_ | refine go_skip ?_ | refine go_block ?_ | refine inb_normal ?_
    | (apply go_yes; (case hc => simp [hb, h1])) | (apply go_no; (case hc => simp [hb, h1]))
    | refine go_exit ?_ | refine next_exit ?_ | refine inb_here ?_ | refine inb_past (by decide) ?_ | refine go_ret ?_ | refine next_ret ?_ | refine inb_ret ?_))
    (apply ends_ok; (case h1 => simp; exact is_rfl); (case h2 => simp; exact is_rfl))
    simp [h, h1]
  by_cases h2 : n < S.length
  case neg =>
    (refine gives_iff ?_; refine go_func Try.f26 rfl rfl (by simp [Try.f26]) ?_; dsimp only [codeL, Try.f26, scL, sopsL, guardL, dstAt, loopKey])
    (repeat (first
    | (apply is_ok; (case hw => simp [hb, h1, h2]); (case he => simp [hb, h1, h2]; exact is_rfl))
    | (apply op_no; (case hw => simp [hb, h1, h2]))
    | refine op_nil ?_ | refine next_normal ?_ | refine go_seq ?_ | refine go_region ?_ | refine go_skip ?_ | refine go_block ?_ | refine inb_normal ?_
    | (apply go_yes; (case hc => simp [hb, h1, h2])) | (apply go_no; (case hc => simp [hb, h1, h2]))
    | refine go_exit ?_ | refine next_exit ?_ | refine inb_here ?_ | refine inb_past (by decide) ?_ | refine go_ret ?_ | refine next_ret ?_ | refine inb_ret ?_))
    (apply ends_ok; (case h1 => simp; exact is_rfl); (case h2 => simp; exact is_rfl))
    simp [h, h1, h2]
  obtain ⟨m, rfl⟩ : ∃ m : Nat, n = m := ⟨n.toNat, by omega⟩
  have hs := set_eq e.1 m (by omega) (by omega)
  have h2' : m < S.length := by omega
  (refine gives_iff ?_; refine go_func Try.f26 rfl rfl (by simp [Try.f26]) ?_; dsimp only [codeL, Try.f26, scL, sopsL, guardL, dstAt, loopKey])
  (repeat (first
    | (apply is_ok; (case hw => simp [hb, h1, h2, h2', hu, hs]); (case he => simp [hb, h1, h2, h2', hu, hs]; exact is_rfl))
    | (apply op_no; (case hw => simp [hb, h1, h2, h2', hu, hs]))
    | refine op_nil ?_ | refine next_normal ?_ | refine go_seq ?_ | refine go_region ?_ | refine go_skip ?_ | refine go_block ?_ | refine inb_normal ?_
    | (apply go_yes; (case hc => simp [hb, h1, h2, h2', hu, hs])) | (apply go_no; (case hc => simp [hb, h1, h2, h2', hu, hs]))
    | refine go_exit ?_ | refine next_exit ?_ | refine inb_here ?_ | refine inb_past (by decide) ?_ | refine go_ret ?_ | refine next_ret ?_ | refine inb_ret ?_))
  (apply ends_ok; (case h1 => simp; exact is_rfl); (case h2 => simp; exact is_rfl))
  simp [h, h2']

theorem UsedR_eq (S : List (List UInt8)) (B : List Int) (hB : B.length ≤ maxLen) (n : Int) : bodyW DC 27 [drv S B, .int .i64 n] [] = some (.bool (usedB S B n), []) := by
  unfold usedB
  obtain ⟨a, b, hb, _⟩ := bitmap_eq S B hB
  by_cases h : (mapS S B).2 = 0
  case neg =>
    generalize mapS S B = e at hb h
    (refine gives_iff ?_; refine go_func Try.f27 rfl rfl (by simp [Try.f27]) ?_; dsimp only [codeL, Try.f27, scL, sopsL, guardL, dstAt, loopKey])
    (repeat (first
    | (apply is_ok; (case hw => simp [hb, h]); (case he => simp [hb, h]; exact is_rfl))
    | (apply op_no; (case hw => simp [hb, h]))
    | refine op_nil ?_ | refine next_normal ?_ | refine go_seq ?_ | refine go_region ?_ | refine go_skip ?_ | refine go_block ?_ | refine inb_normal ?_
    | (apply go_yes; (case hc => simp [hb, h])) | (apply go_no; (case hc => simp [hb, h]))
    | refine go_exit ?_ | refine next_exit ?_ | refine inb_here ?_ | refine inb_past (by decide) ?_ | refine go_ret ?_ | refine next_ret ?_ | refine inb_ret ?_))
    (apply ends_ok; (case h1 => simp; exact is_rfl); (case h2 => simp; exact is_rfl))
    simp [h]
  obtain ⟨hv, hl⟩ := map_ok h
  have hv2 := vol_bounds hv
  generalize hm : mapS S B = e at hb h hl
  by_cases h1 : 0 ≤ n
  case neg =>
    (refine gives_iff ?_; refine go_func Try.f27 rfl rfl (by simp [Try.f27]) ?_; dsimp only [codeL, Try.f27, scL, sopsL, guardL, dstAt, loopKey])
    (repeat (first
    | (apply is_ok; (case hw => simp [hb, h, h1]); (case he => simp [hb, h, h1]; exact is_rfl))
    | (apply op_no; (case hw => simp [hb, h, h1]))
    | refine op_nil ?_ | refine next_normal ?_ | refine go_seq ?_ | refine go_region ?_ | refine go_skip ?_ | refine go_block ?_ | refine inb_normal ?_
    | (apply go_yes; (case hc => simp [hb, h, h1])) | (apply go_no; (case hc => simp [hb, h, h1]))
    | refine go_exit ?_ | refine next_exit ?_ | refine inb_here ?_ | refine inb_past (by decide) ?_ | refine go_ret ?_ | refine next_ret ?_ | refine inb_ret ?_))
    (apply ends_ok; (case h1 => simp; exact is_rfl); (case h2 => simp; exact is_rfl))
    simp [h, h1]
  by_cases h2 : n < S.length
  case neg =>
    (refine gives_iff ?_; refine go_func Try.f27 rfl rfl (by simp [Try.f27]) ?_; dsimp only [codeL, Try.f27, scL, sopsL, guardL, dstAt, loopKey])
    (repeat (first
    | (apply is_ok; (case hw => simp [hb, h, h1, h2]); (case he => simp [hb, h, h1, h2]; exact is_rfl))
    | (apply op_no; (case hw => simp [hb, h, h1, h2]))
    | refine op_nil ?_ | refine next_normal ?_ | refine go_seq ?_ | refine go_region ?_ | refine go_skip ?_ | refine go_block ?_ | refine inb_normal ?_
    | (apply go_yes; (case hc => simp [hb, h, h1, h2])) | (apply go_no; (case hc => simp [hb, h, h1, h2]))
    | refine go_exit ?_ | refine next_exit ?_ | refine inb_here ?_ | refine inb_past (by decide) ?_ | refine go_ret ?_ | refine next_ret ?_ | refine inb_ret ?_))
    (apply ends_ok; (case h1 => simp; exact is_rfl); (case h2 => simp; exact is_rfl))
    simp [h, h1, h2]
  obtain ⟨m, rfl⟩ : ∃ m : Nat, n = m := ⟨n.toNat, by omega⟩
  have hs := bit_eq e.1 m (by omega) (by omega)
  have h2' : m < S.length := by omega
  (refine gives_iff ?_; refine go_func Try.f27 rfl rfl (by simp [Try.f27]) ?_; dsimp only [codeL, Try.f27, scL, sopsL, guardL, dstAt, loopKey])
  (repeat (first
    | (apply is_ok; (case hw => simp [hb, h, h1, h2, h2', hs]); (case he => simp [hb, h, h1, h2, h2', hs]; exact is_rfl))
    | (apply op_no; (case hw => simp [hb, h, h1, h2, h2', hs]))
    | refine op_nil ?_ | refine next_normal ?_ | refine go_seq ?_ | refine go_region ?_ | refine go_skip ?_ | refine go_block ?_ | refine inb_normal ?_
    | (apply go_yes; (case hc => simp [hb, h, h1, h2, h2', hs])) | (apply go_no; (case hc => simp [hb, h, h1, h2, h2', hs]))
    | refine go_exit ?_ | refine next_exit ?_ | refine inb_here ?_ | refine inb_past (by decide) ?_ | refine go_ret ?_ | refine next_ret ?_ | refine inb_ret ?_))
  (apply ends_ok; (case h1 => simp; exact is_rfl); (case h2 => simp; exact is_rfl))
  simp [h, h2']

theorem Same_refl (l : List Int) (hl : l.length ≤ 1000000) : bodyW DC 25 [.sl (ints l), .sl (ints l)] [] = some (.bool true, []) := by
  (refine gives_iff ?_; refine go_func Try.f25 rfl rfl (by simp [Try.f25]) ?_; dsimp only [codeL, Try.f25, scL, sopsL, guardL, dstAt, loopKey])
  (repeat (first
    | (apply is_ok; (case hw => simp); (case he => simp; exact is_rfl))
    | (apply op_no; (case hw => simp))
    | refine op_nil ?_ | refine next_normal ?_ | refine go_seq ?_ | refine go_region ?_ | refine go_skip ?_ | refine go_block ?_ | refine inb_normal ?_
    | (apply go_yes; (case hc => simp)) | (apply go_no; (case hc => simp))
    | refine go_exit ?_ | refine next_exit ?_ | refine inb_here ?_ | refine inb_past (by decide) ?_ | refine go_ret ?_ | refine next_ret ?_ | refine inb_ret ?_))
  refine go_count l.length (fun i => [(0, .sl (ints l)), (1, .sl (ints l)), (5, .int .i64 i)]) (fun _ => []) (fun _ => True) (by simp) trivial fun i hi _ => ?_
  by_cases hlt : i < l.length
  · have hw : IntKind.i64.wrap ((i : Int) + 1) = (i : Int) + 1 := wrap_id (by omega) (by omega)
    (repeat (first
    | (apply is_ok; (case hw => simp [hlt]); (case he => simp [hlt]; exact is_rfl))
    | (apply op_no; (case hw => simp [hlt]))
    | refine op_nil ?_ | refine next_normal ?_ | refine go_seq ?_ | refine go_region ?_ | refine go_skip ?_ | refine go_block ?_ | refine inb_normal ?_
    | (apply go_yes; (case hc => simp [hlt])) | (apply go_no; (case hc => simp [hlt]))
    | refine go_exit ?_ | refine next_exit ?_ | refine inb_here ?_ | refine inb_past (by decide) ?_ | refine go_ret ?_ | refine next_ret ?_ | refine inb_ret ?_))
    exact ⟨hlt, by simp [hw], trivial⟩
  · (repeat (first
    | (apply is_ok; (case hw => simp [hlt]); (case he => simp [hlt]; exact is_rfl))
    | (apply op_no; (case hw => simp [hlt]))
    | refine op_nil ?_ | refine next_normal ?_ | refine go_seq ?_ | refine go_region ?_ | refine go_skip ?_ | refine go_block ?_ | refine inb_normal ?_
    | (apply go_yes; (case hc => simp [hlt])) | (apply go_no; (case hc => simp [hlt]))
    | refine go_exit ?_ | refine next_exit ?_ | refine inb_here ?_ | refine inb_past (by decide) ?_ | refine go_ret ?_ | refine next_ret ?_ | refine inb_ret ?_))
    (apply ends_ok; (case h1 => simp; exact is_rfl); (case h2 => simp; exact is_rfl))
    simp

def kindV : V → Int
  | .agg (.int _ k :: _) => k
  | _ => 0
/-- The first free inode from n on. -/
def allocF (S : List (List UInt8)) (B : List Int) : Nat → Nat → Int × Int
  | 0, _ => (0, 12)
  | f + 1, n => if getE S B n ≠ 0 then (0, getE S B n) else if kindV (getV S B n) = 0 then (n, 0) else allocF S B f (n + 1)

theorem Alloc_eq (S : List (List UInt8)) (B : List Int) (hB : B.length ≤ maxLen) : bodyW DC 23 [drv S B] [] = some (.tuple [.int .i64 (allocF S B 31 1).1, .int .i64 (allocF S B 31 1).2], []) := by
  generalize hR : allocF S B 31 1 = R
  (refine gives_iff ?_; refine go_func Try.f23 rfl rfl (by simp [Try.f23]) ?_; dsimp only [codeL, Try.f23, scL, sopsL, guardL, dstAt, loopKey])
  (repeat (first
    | (apply is_ok; (case hw => simp); (case he => simp; exact is_rfl))
    | (apply op_no; (case hw => simp))
    | refine op_nil ?_ | refine next_normal ?_ | refine go_seq ?_ | refine go_region ?_ | refine go_skip ?_ | refine go_block ?_ | refine inb_normal ?_
    | (apply go_yes; (case hc => simp)) | (apply go_no; (case hc => simp))
    | refine go_exit ?_ | refine next_exit ?_ | refine inb_here ?_ | refine inb_past (by decide) ?_ | refine go_ret ?_ | refine next_ret ?_ | refine inb_ret ?_))
  refine go_count 31 (fun i => [(1, .ptr 0 1 0 0), (4, .int .i64 ((i + 1 : Nat) : Int))]) (fun _ => [.box (drv S B)]) (fun i => allocF S B (31 - i) (i + 1) = R) (by simp) hR fun i hi hI => ?_
  generalize hj : i + 1 = j at hI
  have hw : IntKind.i64.wrap ((j : Int) + 1) = ((j + 1 : Nat) : Int) := wrap_id (by omega) (by omega)
  by_cases hlt : j < 32
  · have hlt' : (j : Int) < 32 := by omega
    have hf : 31 - i = (31 - (i + 1)) + 1 := by omega
    rw [hf, allocF] at hI
    have hG := Get38_eq S B hB j
    obtain ⟨k, l, z, a, b, c, d, e, f, g, h, hsh, _⟩ := getV_shape S B j
    have hkv : kindV (getV S B j) = k := by rw [hsh]; rfl
    rw [hsh] at hG
    by_cases he : getE S B j = 0
    · rw [if_neg (by simpa using he)] at hI
      rw [he] at hG
      by_cases hk : k = 0
      · rw [if_pos (by rw [hkv]; exact hk)] at hI
        (repeat (first
    | (apply is_ok; (case hw => simp [hlt, hlt', hG, hk]); (case he => simp [hlt, hlt', hG, hk]; exact is_rfl))
    | (apply op_no; (case hw => simp [hlt, hlt', hG, hk]))
    | refine op_nil ?_ | refine next_normal ?_ | refine go_seq ?_ | refine go_region ?_ | refine go_skip ?_ | refine go_block ?_ | refine inb_normal ?_
    | (apply go_yes; (case hc => simp [hlt, hlt', hG, hk])) | (apply go_no; (case hc => simp [hlt, hlt', hG, hk]))
    | refine go_exit ?_ | refine next_exit ?_ | refine inb_here ?_ | refine inb_past (by decide) ?_ | refine go_ret ?_ | refine next_ret ?_ | refine inb_ret ?_))
        (apply ends_ok; (case h1 => simp; exact is_rfl); (case h2 => simp; exact is_rfl))
        simp [← hI]
      · rw [if_neg (by rw [hkv]; exact hk)] at hI
        (repeat (first
    | (apply is_ok; (case hw => simp [hlt, hlt', hG, hk]); (case he => simp [hlt, hlt', hG, hk]; exact is_rfl))
    | (apply op_no; (case hw => simp [hlt, hlt', hG, hk]))
    | refine op_nil ?_ | refine next_normal ?_ | refine go_seq ?_ | refine go_region ?_ | refine go_skip ?_ | refine go_block ?_ | refine inb_normal ?_
    | (apply go_yes; (case hc => simp [hlt, hlt', hG, hk])) | (apply go_no; (case hc => simp [hlt, hlt', hG, hk]))
    | refine go_exit ?_ | refine next_exit ?_ | refine inb_here ?_ | refine inb_past (by decide) ?_ | refine go_ret ?_ | refine next_ret ?_ | refine inb_ret ?_))
        exact ⟨by omega, by simp [hw, hj], by rw [hj] at hI; exact hI⟩
    · rw [if_pos he] at hI
      (repeat (first
    | (apply is_ok; (case hw => simp [hlt, hlt', hG, he]); (case he => simp [hlt, hlt', hG, he]; exact is_rfl))
    | (apply op_no; (case hw => simp [hlt, hlt', hG, he]))
    | refine op_nil ?_ | refine next_normal ?_ | refine go_seq ?_ | refine go_region ?_ | refine go_skip ?_ | refine go_block ?_ | refine inb_normal ?_
    | (apply go_yes; (case hc => simp [hlt, hlt', hG, he])) | (apply go_no; (case hc => simp [hlt, hlt', hG, he]))
    | refine go_exit ?_ | refine next_exit ?_ | refine inb_here ?_ | refine inb_past (by decide) ?_ | refine go_ret ?_ | refine next_ret ?_ | refine inb_ret ?_))
      (apply ends_ok; (case h1 => simp; exact is_rfl); (case h2 => simp; exact is_rfl))
      simp [← hI]
  · have hlt' : ¬ (j : Int) < 32 := by omega
    have hz : 31 - i = 0 := by omega
    rw [hz, allocF] at hI
    (repeat (first
    | (apply is_ok; (case hw => simp [hlt, hlt']); (case he => simp [hlt, hlt']; exact is_rfl))
    | (apply op_no; (case hw => simp [hlt, hlt']))
    | refine op_nil ?_ | refine next_normal ?_ | refine go_seq ?_ | refine go_region ?_ | refine go_skip ?_ | refine go_block ?_ | refine inb_normal ?_
    | (apply go_yes; (case hc => simp [hlt, hlt'])) | (apply go_no; (case hc => simp [hlt, hlt']))
    | refine go_exit ?_ | refine next_exit ?_ | refine inb_here ?_ | refine inb_past (by decide) ?_ | refine go_ret ?_ | refine next_ret ?_ | refine inb_ret ?_))
    (apply ends_ok; (case h1 => simp; exact is_rfl); (case h2 => simp; exact is_rfl))
    simp [← hI]
theorem AllocR_eq (S : List (List UInt8)) (B : List Int) (hB : B.length ≤ maxLen) : bodyW DC 24 [drv S B] [] = some (.tuple [.int .i64 (allocF S B 31 1).1, .int .i64 (allocF S B 31 1).2], []) := by
  generalize hR : allocF S B 31 1 = R
  (refine gives_iff ?_; refine go_func Try.f24 rfl rfl (by simp [Try.f24]) ?_; dsimp only [codeL, Try.f24, scL, sopsL, guardL, dstAt, loopKey])
  (repeat (first
    | (apply is_ok; (case hw => simp); (case he => simp; exact is_rfl))
    | (apply op_no; (case hw => simp))
    | refine op_nil ?_ | refine next_normal ?_ | refine go_seq ?_ | refine go_region ?_ | refine go_skip ?_ | refine go_block ?_ | refine inb_normal ?_
    | (apply go_yes; (case hc => simp)) | (apply go_no; (case hc => simp))
    | refine go_exit ?_ | refine next_exit ?_ | refine inb_here ?_ | refine inb_past (by decide) ?_ | refine go_ret ?_ | refine next_ret ?_ | refine inb_ret ?_))
  refine go_count 31 (fun i => [(1, .ptr 0 1 0 0), (4, .int .i64 ((i + 1 : Nat) : Int))]) (fun _ => [.box (drv S B)]) (fun i => allocF S B (31 - i) (i + 1) = R) (by simp) hR fun i hi hI => ?_
  generalize hj : i + 1 = j at hI
  have hw : IntKind.i64.wrap ((j : Int) + 1) = ((j + 1 : Nat) : Int) := wrap_id (by omega) (by omega)
  by_cases hlt : j < 32
  · have hlt' : (j : Int) < 32 := by omega
    have hf : 31 - i = (31 - (i + 1)) + 1 := by omega
    rw [hf, allocF] at hI
    have hG := Get38R_eq S B hB j
    obtain ⟨k, l, z, a, b, c, d, e, f, g, h, hsh, _⟩ := getV_shape S B j
    have hkv : kindV (getV S B j) = k := by rw [hsh]; rfl
    rw [hsh] at hG
    by_cases he : getE S B j = 0
    · rw [if_neg (by simpa using he)] at hI
      rw [he] at hG
      by_cases hk : k = 0
      · rw [if_pos (by rw [hkv]; exact hk)] at hI
        (repeat (first
    | (apply is_ok; (case hw => simp [hlt, hlt', hG, hk]); (case he => simp [hlt, hlt', hG, hk]; exact is_rfl))
    | (apply op_no; (case hw => simp [hlt, hlt', hG, hk]))
    | refine op_nil ?_ | refine next_normal ?_ | refine go_seq ?_ | refine go_region ?_ | refine go_skip ?_ | refine go_block ?_ | refine inb_normal ?_
    | (apply go_yes; (case hc => simp [hlt, hlt', hG, hk])) | (apply go_no; (case hc => simp [hlt, hlt', hG, hk]))
    | refine go_exit ?_ | refine next_exit ?_ | refine inb_here ?_ | refine inb_past (by decide) ?_ | refine go_ret ?_ | refine next_ret ?_ | refine inb_ret ?_))
        (apply ends_ok; (case h1 => simp; exact is_rfl); (case h2 => simp; exact is_rfl))
        simp [← hI]
      · rw [if_neg (by rw [hkv]; exact hk)] at hI
        (repeat (first
    | (apply is_ok; (case hw => simp [hlt, hlt', hG, hk]); (case he => simp [hlt, hlt', hG, hk]; exact is_rfl))
    | (apply op_no; (case hw => simp [hlt, hlt', hG, hk]))
    | refine op_nil ?_ | refine next_normal ?_ | refine go_seq ?_ | refine go_region ?_ | refine go_skip ?_ | refine go_block ?_ | refine inb_normal ?_
    | (apply go_yes; (case hc => simp [hlt, hlt', hG, hk])) | (apply go_no; (case hc => simp [hlt, hlt', hG, hk]))
    | refine go_exit ?_ | refine next_exit ?_ | refine inb_here ?_ | refine inb_past (by decide) ?_ | refine go_ret ?_ | refine next_ret ?_ | refine inb_ret ?_))
        exact ⟨by omega, by simp [hw, hj], by rw [hj] at hI; exact hI⟩
    · rw [if_pos he] at hI
      (repeat (first
    | (apply is_ok; (case hw => simp [hlt, hlt', hG, he]); (case he => simp [hlt, hlt', hG, he]; exact is_rfl))
    | (apply op_no; (case hw => simp [hlt, hlt', hG, he]))
    | refine op_nil ?_ | refine next_normal ?_ | refine go_seq ?_ | refine go_region ?_ | refine go_skip ?_ | refine go_block ?_ | refine inb_normal ?_
    | (apply go_yes; (case hc => simp [hlt, hlt', hG, he])) | (apply go_no; (case hc => simp [hlt, hlt', hG, he]))
    | refine go_exit ?_ | refine next_exit ?_ | refine inb_here ?_ | refine inb_past (by decide) ?_ | refine go_ret ?_ | refine next_ret ?_ | refine inb_ret ?_))
      (apply ends_ok; (case h1 => simp; exact is_rfl); (case h2 => simp; exact is_rfl))
      simp [← hI]
  · have hlt' : ¬ (j : Int) < 32 := by omega
    have hz : 31 - i = 0 := by omega
    rw [hz, allocF] at hI
    (repeat (first
    | (apply is_ok; (case hw => simp [hlt, hlt']); (case he => simp [hlt, hlt']; exact is_rfl))
    | (apply op_no; (case hw => simp [hlt, hlt']))
    | refine op_nil ?_ | refine next_normal ?_ | refine go_seq ?_ | refine go_region ?_ | refine go_skip ?_ | refine go_block ?_ | refine inb_normal ?_
    | (apply go_yes; (case hc => simp [hlt, hlt'])) | (apply go_no; (case hc => simp [hlt, hlt']))
    | refine go_exit ?_ | refine next_exit ?_ | refine inb_here ?_ | refine inb_past (by decide) ?_ | refine go_ret ?_ | refine next_ret ?_ | refine inb_ret ?_))
    (apply ends_ok; (case h1 => simp; exact is_rfl); (case h2 => simp; exact is_rfl))
    simp [← hI]

theorem InodeFrees_eq (S : List (List UInt8)) (B : List Int) (hS : S.length ≤ maxLen) (hB : B.length ≤ maxLen) (n : Int) : bodyW DC 5 [drv S B, .int .i64 n] [] = some (.bool true, []) := by
  have hM := small38_eq S B hS
  by_cases hs : SmallD S B
  case neg =>
    (refine gives_iff ?_; refine go_func Try.f5 rfl rfl (by simp [Try.f5]) ?_; dsimp only [codeL, Try.f5, scL, sopsL, guardL, dstAt, loopKey])
    (repeat (first
    | (apply is_ok; (case hw => simp [hM, hs]); (case he => simp [hM, hs]; exact is_rfl))
    | (apply op_no; (case hw => simp [hM, hs]))
    | refine op_nil ?_ | refine next_normal ?_ | refine go_seq ?_ | refine go_region ?_ | refine go_skip ?_ | refine go_block ?_ | refine inb_normal ?_
    | (apply go_yes; (case hc => simp [hM, hs])) | (apply go_no; (case hc => simp [hM, hs]))
    | refine go_exit ?_ | refine next_exit ?_ | refine inb_here ?_ | refine inb_past (by decide) ?_ | refine go_ret ?_ | refine next_ret ?_ | refine inb_ret ?_))
    (apply ends_ok; (case h1 => simp; exact is_rfl); (case h2 => simp; exact is_rfl))
    simp
  have hU := Used_eq S B hB n
  have hU' := UsedR_eq S B hB n
  have hA := Alloc_eq S B hB
  have hA' := AllocR_eq S B hB
  have hL := alive38_eq
  generalize usedB S B n = u at hU hU'
  generalize allocF S B 31 1 = a at hA hA'
  by_cases h : (mapS S B).2 = 0
  · have hF := Free_ok S B hB h
    have hF' := FreeR_ok S B hB h
    have hn := freeL_length (mapS S B).1 (freeN S)
    have hn2 := (freeN_eq (map_ok h).1).2
    have hE := Same_refl (freeL (mapS S B).1 (freeN S)) (by omega)
    generalize freeL (mapS S B).1 (freeN S) = l at hF hF' hE
    (refine gives_iff ?_; refine go_func Try.f5 rfl rfl (by simp [Try.f5]) ?_; dsimp only [codeL, Try.f5, scL, sopsL, guardL, dstAt, loopKey])
    (repeat (first
    | (apply is_ok; (case hw => simp [hM, hs, hF, hF', hE, hU, hU', hA, hA', hL]); (case he => simp [hM, hs, hF, hF', hE, hU, hU', hA, hA', hL]; exact is_rfl))
    | (apply op_no; (case hw => simp [hM, hs, hF, hF', hE, hU, hU', hA, hA', hL]))
    | refine op_nil ?_ | refine next_normal ?_ | refine go_seq ?_ | refine go_region ?_ | refine go_skip ?_ | refine go_block ?_ | refine inb_normal ?_
    | (apply go_yes; (case hc => simp [hM, hs, hF, hF', hE, hU, hU', hA, hA', hL])) | (apply go_no; (case hc => simp [hM, hs, hF, hF', hE, hU, hU', hA, hA', hL]))
    | refine go_exit ?_ | refine next_exit ?_ | refine inb_here ?_ | refine inb_past (by decide) ?_ | refine go_ret ?_ | refine next_ret ?_ | refine inb_ret ?_))
    (apply ends_ok; (case h1 => simp; exact is_rfl); (case h2 => simp; exact is_rfl))
    simp
  · have hF := Free_no S B hB h
    have hF' := FreeR_no S B hB h
    have hE := Same_refl [] (by simp)
    simp only [ints, List.map_nil] at hE
    generalize (mapS S B).2 = e at hF hF'
    (refine gives_iff ?_; refine go_func Try.f5 rfl rfl (by simp [Try.f5]) ?_; dsimp only [codeL, Try.f5, scL, sopsL, guardL, dstAt, loopKey])
    (repeat (first
    | (apply is_ok; (case hw => simp [hM, hs, hF, hF', hE, hU, hU', hA, hA', hL]); (case he => simp [hM, hs, hF, hF', hE, hU, hU', hA, hA', hL]; exact is_rfl))
    | (apply op_no; (case hw => simp [hM, hs, hF, hF', hE, hU, hU', hA, hA', hL]))
    | refine op_nil ?_ | refine next_normal ?_ | refine go_seq ?_ | refine go_region ?_ | refine go_skip ?_ | refine go_block ?_ | refine inb_normal ?_
    | (apply go_yes; (case hc => simp [hM, hs, hF, hF', hE, hU, hU', hA, hA', hL])) | (apply go_no; (case hc => simp [hM, hs, hF, hF', hE, hU, hU', hA, hA', hL]))
    | refine go_exit ?_ | refine next_exit ?_ | refine inb_here ?_ | refine inb_past (by decide) ?_ | refine go_ret ?_ | refine next_ret ?_ | refine inb_ret ?_))
    (apply ends_ok; (case h1 => simp; exact is_rfl); (case h2 => simp; exact is_rfl))
    simp
end Go.Abs
