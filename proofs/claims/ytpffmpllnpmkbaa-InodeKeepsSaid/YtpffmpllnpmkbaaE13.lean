/- Proved here: what functions of the program compute, over the evaluator. No condition but those that each theorem states. -/
import Derived.Test.YtpffmpllnpmkbaaE12
namespace Go.Abs
open Go.Proofs
set_option maxRecDepth 100000
set_option linter.unusedSimpArgs false
set_option linter.unusedVariables false

theorem Put38R_eq (S : List (List UInt8)) (B : List Int) (hB : B.length ≤ maxLen) (n k l z : Int) (L : List Int) (hL : L.length = 8) (hX : In64 (k :: l :: z :: L)) : bodyW DC 20 [drv S B, .int .i64 n, inoV k l z L] [] = some (.tuple [wrV (putW S B n k l z L).1, .int .i64 (putW S B n k l z L).2], []) := by
  obtain ⟨p, hS, hp⟩ := sectorR_eq S B hB n
  have hV := ValidR_eq k l z L hL (fun x hx => hX x (by simp [hx]))
  have hBy := BytesR_eq k l z L hL hX
  have hbl := bytesI_length (k := k) (l := l) (z := z) hL
  unfold putW
  by_cases he : (secS S B n).2 = 0
  case neg =>
    rw [if_neg he]
    clear hp
    generalize secS S B n = q at hS he
    (refine gives_iff ?_; refine go_func Try.f20 rfl rfl (by simp [Try.f20]) ?_; dsimp only [codeL, Try.f20, scL, sopsL, guardL, dstAt, loopKey])
    (repeat (first
    | (apply is_ok; (case hw => simp [hL, hS, he]); (case he => simp [hL, hS, he]; exact is_rfl))
    | (apply op_no; (case hw => simp [hL, hS, he]))
    | refine op_nil ?_ | refine next_normal ?_ | refine go_seq ?_ | refine go_region ?_ | refine go_skip ?_ | refine go_block ?_ | refine inb_normal ?_
    | (apply go_yes; (case hc => simp [hL, hS, he])) | (apply go_no; (case hc => simp [hL, hS, he]))
    | refine go_exit ?_ | refine next_exit ?_ | refine inb_here ?_ | refine inb_past (by decide) ?_ | refine go_ret ?_ | refine next_ret ?_ | refine inb_ret ?_))
    (apply ends_ok; (case h1 => simp; exact is_rfl); (case h2 => simp; exact is_rfl))
    simp
  rw [if_pos he]
  obtain ⟨hv, h1, h2, hl⟩ := sec_ok he
  rw [he] at hS
  have hp' := hp hv h1 h2
  subst hp'
  clear hp
  generalize (secS S B n).1 = s at hS hl
  by_cases hk : validI k l z L
  case neg =>
    rw [if_neg hk]
    (refine gives_iff ?_; refine go_func Try.f20 rfl rfl (by simp [Try.f20]) ?_; dsimp only [codeL, Try.f20, scL, sopsL, guardL, dstAt, loopKey])
    (repeat (first
    | (apply is_ok; (case hw => simp [hL, hS, hV, hk]); (case he => simp [hL, hS, hV, hk]; exact is_rfl))
    | (apply op_no; (case hw => simp [hL, hS, hV, hk]))
    | refine op_nil ?_ | refine next_normal ?_ | refine go_seq ?_ | refine go_region ?_ | refine go_skip ?_ | refine go_block ?_ | refine inb_normal ?_
    | (apply go_yes; (case hc => simp [hL, hS, hV, hk])) | (apply go_no; (case hc => simp [hL, hS, hV, hk]))
    | refine go_exit ?_ | refine next_exit ?_ | refine inb_here ?_ | refine inb_past (by decide) ?_ | refine go_ret ?_ | refine next_ret ?_ | refine inb_ret ?_))
    (apply ends_ok; (case h1 => simp; exact is_rfl); (case h2 => simp; exact is_rfl))
    simp
  rw [if_pos hk]
  rw [decide_eq_true hk] at hV
  generalize bytesI k l z L = bs at hBy hbl
  obtain ⟨m, rfl⟩ : ∃ m : Nat, n = m := ⟨n.toNat, by omega⟩
  have f1 : (m : Int).tmod 4 = ((m % 4 : Nat) : Int) := by rw [Int.tmod_eq_emod_of_nonneg (by omega)]; rfl
  generalize 19 + (m : Int) / 4 = q at hS ⊢
  have hr : m % 4 < 4 := Nat.mod_lt _ (by omega)
  rw [Int.toNat_natCast]
  generalize m % 4 = r at f1 hr
  have f2 : IntKind.i64.wrap ((r : Int) * 32) = ((r * 32 : Nat) : Int) := by rw [wrap_id (by omega) (by omega)]; omega
  generalize ha : r * 32 = t at f2
  have f3 : IntKind.i64.wrap ((t : Int) + 32) = ((t + 32 : Nat) : Int) := wrap_id (by omega) (by omega)
  generalize hu : t + 32 = u at f3
  have g1 : t ≤ 128 := by omega
  have g2 : u ≤ 128 := by omega
  have g3 : s.take 128 = s := List.take_of_length_le (by omega)
  have g4 : min t 128 = t := by omega
  have r1 : t + 32 ≤ room := by unfold room; omega
  have r2 : t + 32 + (128 - u) ≤ room := by unfold room; omega
  have r3 : u ≤ room := by unfold room; omega
  have r4 : u + (128 - u) ≤ room := by unfold room; omega
  (refine gives_iff ?_; refine go_func Try.f20 rfl rfl (by simp [Try.f20]) ?_; dsimp only [codeL, Try.f20, scL, sopsL, guardL, dstAt, loopKey])
  (repeat (first
    | (apply is_ok; (case hw => simp [hL, hS, hV, hBy, hbl, hl, f1, f2, f3, g1, g2, g3, g4, r1, r2, hu, r3, r4]); (case he => simp [hL, hS, hV, hBy, hbl, hl, f1, f2, f3, g1, g2, g3, g4, r1, r2, hu, r3, r4]; exact is_rfl))
    | (apply op_no; (case hw => simp [hL, hS, hV, hBy, hbl, hl, f1, f2, f3, g1, g2, g3, g4, r1, r2, hu, r3, r4]))
    | refine op_nil ?_ | refine next_normal ?_ | refine go_seq ?_ | refine go_region ?_ | refine go_skip ?_ | refine go_block ?_ | refine inb_normal ?_
    | (apply go_yes; (case hc => simp [hL, hS, hV, hBy, hbl, hl, f1, f2, f3, g1, g2, g3, g4, r1, r2, hu, r3, r4])) | (apply go_no; (case hc => simp [hL, hS, hV, hBy, hbl, hl, f1, f2, f3, g1, g2, g3, g4, r1, r2, hu, r3, r4]))
    | refine go_exit ?_ | refine next_exit ?_ | refine inb_here ?_ | refine inb_past (by decide) ?_ | refine go_ret ?_ | refine next_ret ?_ | refine inb_ret ?_))
  (apply ends_ok; (case h1 => simp; exact is_rfl); (case h2 => simp; exact is_rfl))
  simp

/-- Is a drive bounded? -/
def SmallD (S : List (List UInt8)) (B : List Int) : Prop := (∀ i ∈ List.range S.length, i < 257 → (S.getD i []).length ≤ 200) ∧ S.length ≤ 256 ∧ B.length ≤ 100
instance (S : List (List UInt8)) (B : List Int) : Decidable (SmallD S B) := by unfold SmallD; infer_instance
theorem small38_eq (S : List (List UInt8)) (B : List Int) (hS : S.length ≤ maxLen) : bodyW DC 16 [drv S B] [] = some (.bool (decide (SmallD S B)), []) := by
  unfold maxLen at hS
  (refine gives_iff ?_; refine go_func Try.f16 rfl rfl (by simp [Try.f16]) ?_; dsimp only [codeL, Try.f16, scL, sopsL, guardL, dstAt, loopKey])
  (repeat (first
    | (apply is_ok; (case hw => simp); (case he => simp; exact is_rfl))
    | (apply op_no; (case hw => simp))
    | refine op_nil ?_ | refine next_normal ?_ | refine go_seq ?_ | refine go_region ?_ | refine go_skip ?_ | refine go_block ?_ | refine inb_normal ?_
    | (apply go_yes; (case hc => simp)) | (apply go_no; (case hc => simp))
    | refine go_exit ?_ | refine next_exit ?_ | refine inb_here ?_ | refine inb_past (by decide) ?_ | refine go_ret ?_ | refine next_ret ?_ | refine inb_ret ?_))
  refine go_count 257 (fun i => [(1, .ptr 0 1 0 0), (3, .int .i64 i)]) (fun _ => [.box (drv S B)]) (fun i => i ≤ S.length ∧ ∀ j (hj : j < S.length), j < i → S[j].length ≤ 200) (by simp) (by simp) fun i hi hI => ?_
  have hw : IntKind.i64.wrap ((i : Int) + 1) = (i : Int) + 1 := wrap_id (by omega) (by omega)
  have fin : (i = S.length ∨ i = 257) → (SmallD S B ↔ S.length ≤ 256 ∧ B.length ≤ 100) := fun h => by
    unfold SmallD
    refine ⟨fun h => h.2, fun h2 => ⟨fun j hj hj2 => ?_, h2⟩⟩
    have hj' := List.mem_range.1 hj
    rw [getD_at hj']
    exact hI.2 j hj' (by omega)
  by_cases h1 : i < S.length
  · by_cases h2 : i < 257
    · have h2' : (i : Int) < 257 := by omega
      by_cases h3 : S[i].length ≤ 200
      · have e3 : ¬ ((200 : Int) < S[i].length) := by omega
        (repeat (first
    | (apply is_ok; (case hw => simp [h1, h2, h2', e3]); (case he => simp [h1, h2, h2', e3]; exact is_rfl))
    | (apply op_no; (case hw => simp [h1, h2, h2', e3]))
    | refine op_nil ?_ | refine next_normal ?_ | refine go_seq ?_ | refine go_region ?_ | refine go_skip ?_ | refine go_block ?_ | refine inb_normal ?_
    | (apply go_yes; (case hc => simp [h1, h2, h2', e3])) | (apply go_no; (case hc => simp [h1, h2, h2', e3]))
    | refine go_exit ?_ | refine next_exit ?_ | refine inb_here ?_ | refine inb_past (by decide) ?_ | refine go_ret ?_ | refine next_ret ?_ | refine inb_ret ?_))
        exact ⟨h2, by simp [hw], h1, fun j hj hji => by
          by_cases hje : j = i
          · subst hje; exact h3
          · exact hI.2 j hj (by omega)⟩
      · have e3 : ((200 : Int) < S[i].length) := by omega
        (repeat (first
    | (apply is_ok; (case hw => simp [h1, h2, h2', e3]); (case he => simp [h1, h2, h2', e3]; exact is_rfl))
    | (apply op_no; (case hw => simp [h1, h2, h2', e3]))
    | refine op_nil ?_ | refine next_normal ?_ | refine go_seq ?_ | refine go_region ?_ | refine go_skip ?_ | refine go_block ?_ | refine inb_normal ?_
    | (apply go_yes; (case hc => simp [h1, h2, h2', e3])) | (apply go_no; (case hc => simp [h1, h2, h2', e3]))
    | refine go_exit ?_ | refine next_exit ?_ | refine inb_here ?_ | refine inb_past (by decide) ?_ | refine go_ret ?_ | refine next_ret ?_ | refine inb_ret ?_))
        (apply ends_ok; (case h1 => simp; exact is_rfl); (case h2 => simp; exact is_rfl))
        have : ¬ SmallD S B := fun h => h3 (by have := h.1 i (List.mem_range.2 h1) h2; rwa [getD_at h1] at this)
        simp [this]
    · have h2' : ¬ (i : Int) < 257 := by omega
      have hf := fin (.inr (by omega))
      have e4 : ¬ ((S.length : Int) ≤ 256) := by omega
      have hn : ¬ SmallD S B := fun h => by have := (hf.1 h).1; omega
      (repeat (first
    | (apply is_ok; (case hw => simp [h1, h2, h2', e4]); (case he => simp [h1, h2, h2', e4]; exact is_rfl))
    | (apply op_no; (case hw => simp [h1, h2, h2', e4]))
    | refine op_nil ?_ | refine next_normal ?_ | refine go_seq ?_ | refine go_region ?_ | refine go_skip ?_ | refine go_block ?_ | refine inb_normal ?_
    | (apply go_yes; (case hc => simp [h1, h2, h2', e4])) | (apply go_no; (case hc => simp [h1, h2, h2', e4]))
    | refine go_exit ?_ | refine next_exit ?_ | refine inb_here ?_ | refine inb_past (by decide) ?_ | refine go_ret ?_ | refine next_ret ?_ | refine inb_ret ?_))
      (apply ends_ok; (case h1 => simp; exact is_rfl); (case h2 => simp; exact is_rfl))
      simp [hn]
  · have hf := fin (.inl (by omega))
    by_cases h4 : S.length ≤ 256
    · have e4 : ((S.length : Int) ≤ 256) := by omega
      by_cases h5 : B.length ≤ 100
      · have e5 : ((B.length : Int) ≤ 100) := by omega
        have hn : SmallD S B := hf.2 ⟨h4, h5⟩
        (repeat (first
    | (apply is_ok; (case hw => simp [h1, e4, e5]); (case he => simp [h1, e4, e5]; exact is_rfl))
    | (apply op_no; (case hw => simp [h1, e4, e5]))
    | refine op_nil ?_ | refine next_normal ?_ | refine go_seq ?_ | refine go_region ?_ | refine go_skip ?_ | refine go_block ?_ | refine inb_normal ?_
    | (apply go_yes; (case hc => simp [h1, e4, e5])) | (apply go_no; (case hc => simp [h1, e4, e5]))
    | refine go_exit ?_ | refine next_exit ?_ | refine inb_here ?_ | refine inb_past (by decide) ?_ | refine go_ret ?_ | refine next_ret ?_ | refine inb_ret ?_))
        (apply ends_ok; (case h1 => simp; exact is_rfl); (case h2 => simp; exact is_rfl))
        simp [hn]
      · have e5 : ¬ ((B.length : Int) ≤ 100) := by omega
        have hn : ¬ SmallD S B := fun h => h5 (hf.1 h).2
        (repeat (first
    | (apply is_ok; (case hw => simp [h1, e4, e5]); (case he => simp [h1, e4, e5]; exact is_rfl))
    | (apply op_no; (case hw => simp [h1, e4, e5]))
    | refine op_nil ?_ | refine next_normal ?_ | refine go_seq ?_ | refine go_region ?_ | refine go_skip ?_ | refine go_block ?_ | refine inb_normal ?_
    | (apply go_yes; (case hc => simp [h1, e4, e5])) | (apply go_no; (case hc => simp [h1, e4, e5]))
    | refine go_exit ?_ | refine next_exit ?_ | refine inb_here ?_ | refine inb_past (by decide) ?_ | refine go_ret ?_ | refine next_ret ?_ | refine inb_ret ?_))
        (apply ends_ok; (case h1 => simp; exact is_rfl); (case h2 => simp; exact is_rfl))
        simp [hn]
    · have e4 : ¬ ((S.length : Int) ≤ 256) := by omega
      have hn : ¬ SmallD S B := fun h => h4 (hf.1 h).1
      (repeat (first
    | (apply is_ok; (case hw => simp [h1, e4]); (case he => simp [h1, e4]; exact is_rfl))
    | (apply op_no; (case hw => simp [h1, e4]))
    | refine op_nil ?_ | refine next_normal ?_ | refine go_seq ?_ | refine go_region ?_ | refine go_skip ?_ | refine go_block ?_ | refine inb_normal ?_
    | (apply go_yes; (case hc => simp [h1, e4])) | (apply go_no; (case hc => simp [h1, e4]))
    | refine go_exit ?_ | refine next_exit ?_ | refine inb_here ?_ | refine inb_past (by decide) ?_ | refine go_ret ?_ | refine next_ret ?_ | refine inb_ret ?_))
      (apply ends_ok; (case h1 => simp; exact is_rfl); (case h2 => simp; exact is_rfl))
      simp [hn]

theorem eqL_wr (i j : Int) (s u : List UInt8) : eqL Try.prog 10000 38 [.int .i64 i, .str s] [.int .i64 j, .str u] = some (decide (i = j) && decide (s = u)) := by
  have s1 : Try.prog.stoodInHeld 38 = false := by kernel_rfl
  have o1 : okT Try.prog 3 = true := by kernel_rfl
  have o2 : okT Try.prog 9 = true := by kernel_rfl
  have z1 : sizeL Try.prog 3 = 1 := by kernel_rfl
  have z2 : sizeL Try.prog 9 = 1 := by kernel_rfl
  rw [show (10000 : Nat) = 9997 + 3 from rfl]
  generalize 9997 = n
  simp [eqL, eqFs, eqNs, s1, o1, o2, z1, z2, Try.underlying38, Try.underlying9, Try.underlying3]
  rw [Bool.eq_iff_iff]
  simp
theorem same_wr (i : Int) (s : List UInt8) : binV Try.prog .eql 38 (.agg [.int .i64 i, .str s]) (.agg [.int .i64 i, .str s]) = some (.bool true) := by
  have h := (binV_agg (P := Try.prog) (t := 38) (d := 10000) rfl (by kernel_rfl) (by kernel_rfl) rfl rfl (eqL_wr i i s s)).1
  simp only [decide_true, Bool.and_self] at h
  exact h

theorem getV_shape (S : List (List UInt8)) (B : List Int) (n : Int) : ∃ k l z a b c d e f g h, getV S B n = .agg [.int .i64 k, .int .i64 l, .int .i64 z, .int .i64 a, .int .i64 b, .int .i64 c, .int .i64 d, .int .i64 e, .int .i64 f, .int .i64 g, .int .i64 h] ∧ In64 [k, l, z, a, b, c, d, e, f, g, h] := by
  unfold getV
  split
  · exact parseV_shape _
  · exact ⟨0, 0, 0, 0, 0, 0, 0, 0, 0, 0, 0, rfl, by intro x hx; simp at hx; omega⟩

theorem InodeGets_eq (S : List (List UInt8)) (B : List Int) (hS : S.length ≤ maxLen) (hB : B.length ≤ maxLen) (n k l z : Int) (L : List Int) (hL : L.length = 8) (hX : In64 (k :: l :: z :: L)) :
    bodyW DC 4 [drv S B, .int .i64 n, inoV k l z L] [] = some (.bool true, []) := by
  have hM := small38_eq S B hS
  by_cases hs : SmallD S B
  case neg =>
    (refine gives_iff ?_; refine go_func Try.f4 rfl rfl (by simp [Try.f4]) ?_; dsimp only [codeL, Try.f4, scL, sopsL, guardL, dstAt, loopKey])
    (repeat (first
    | (apply is_ok; (case hw => simp [hL, hM, hs]); (case he => simp [hL, hM, hs]; exact is_rfl))
    | (apply op_no; (case hw => simp [hL, hM, hs]))
    | refine op_nil ?_ | refine next_normal ?_ | refine go_seq ?_ | refine go_region ?_ | refine go_skip ?_ | refine go_block ?_ | refine inb_normal ?_
    | (apply go_yes; (case hc => simp [hL, hM, hs])) | (apply go_no; (case hc => simp [hL, hM, hs]))
    | refine go_exit ?_ | refine next_exit ?_ | refine inb_here ?_ | refine inb_past (by decide) ?_ | refine go_ret ?_ | refine next_ret ?_ | refine inb_ret ?_))
    (apply ends_ok; (case h1 => simp; exact is_rfl); (case h2 => simp; exact is_rfl))
    simp
  have hG := Get38_eq S B hB n
  have hG' := Get38R_eq S B hB n
  have hP := Put38_eq S B hB n k l z L hL hX
  have hP' := Put38R_eq S B hB n k l z L hL hX
  have hA := alive38_eq
  obtain ⟨k', l', z', a, b, c, d, e, f, g, h, hv, _⟩ := getV_shape S B n
  rw [hv] at hG hG'
  have hE := same_ino k' l' z' a b c d e f g h
  generalize getE S B n = ee at hG hG'
  generalize putW S B n k l z L = p at hP hP'
  have hE2 := same_wr p.1.1 p.1.2
  (refine gives_iff ?_; refine go_func Try.f4 rfl rfl (by simp [Try.f4]) ?_; dsimp only [codeL, Try.f4, scL, sopsL, guardL, dstAt, loopKey])
  (repeat (first
    | (apply is_ok; (case hw => simp [-binV, hL, hM, hs, hG, hG', hP, hP', hA, hE, hE2]); (case he => simp [-binV, hL, hM, hs, hG, hG', hP, hP', hA, hE, hE2]; exact is_rfl))
    | (apply op_no; (case hw => simp [-binV, hL, hM, hs, hG, hG', hP, hP', hA, hE, hE2]))
    | refine op_nil ?_ | refine next_normal ?_ | refine go_seq ?_ | refine go_region ?_ | refine go_skip ?_ | refine go_block ?_ | refine inb_normal ?_
    | (apply go_yes; (case hc => simp [-binV, hL, hM, hs, hG, hG', hP, hP', hA, hE, hE2])) | (apply go_no; (case hc => simp [-binV, hL, hM, hs, hG, hG', hP, hP', hA, hE, hE2]))
    | refine go_exit ?_ | refine next_exit ?_ | refine inb_here ?_ | refine inb_past (by decide) ?_ | refine go_ret ?_ | refine next_ret ?_ | refine inb_ret ?_))
  (apply ends_ok; (case h1 => simp; exact is_rfl); (case h2 => simp; exact is_rfl))
  simp
end Go.Abs
