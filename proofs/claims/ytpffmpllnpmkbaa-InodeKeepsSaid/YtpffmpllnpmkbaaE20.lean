/- Proved here: what functions of the program compute, over the evaluator. No condition but those that each theorem states. -/
import Derived.Test.YtpffmpllnpmkbaaE19
namespace Go.Abs
open Go.Proofs
set_option maxRecDepth 100000
set_option linter.unusedSimpArgs false
set_option linter.unusedVariables false

theorem allocF_zero (S : List (List UInt8)) (B : List Int) : ∀ f n, (allocF S B f n).2 = 0 → (n : Int) ≤ (allocF S B f n).1 ∧ (allocF S B f n).1 < (n : Int) + f
  | 0, n, h => by simp [allocF] at h
  | f + 1, n, h => by
    unfold allocF at h ⊢
    by_cases h1 : getE S B n ≠ 0
    · rw [if_pos h1] at h; exact absurd h h1
    · rw [if_neg h1] at h ⊢
      by_cases h2 : kindV (getV S B n) = 0
      · rw [if_pos h2]; exact ⟨Int.le_refl _, by dsimp only; omega⟩
      · rw [if_neg h2] at h ⊢
        have := allocF_zero S B f (n + 1) h
        omega
theorem allocF_err (S : List (List UInt8)) (B : List Int) : ∀ f n, (allocF S B f n).2 ≠ 0 → (allocF S B f n).1 = 0
  | 0, n, h => rfl
  | f + 1, n, h => by
    unfold allocF at h ⊢
    by_cases h1 : getE S B n ≠ 0
    · rw [if_pos h1]
    · rw [if_neg h1] at h ⊢
      by_cases h2 : kindV (getV S B n) = 0
      · rw [if_pos h2] at h; exact absurd rfl h
      · rw [if_neg h2] at h ⊢
        exact allocF_err S B f (n + 1) h
theorem getV_free {S : List (List UInt8)} {B : List Int} {n : Int} (h : getE S B n = 0) (hk : kindV (getV S B n) = 0) : getV S B n = ino0 := by
  unfold getV getE at *
  split at h
  · rename_i he
    rw [if_pos he] at hk ⊢
    unfold parseE at h
    split at h
    · rename_i ho
      unfold parseV at hk ⊢
      rw [if_pos ho] at hk ⊢
      have hv := ho.2.1
      have hk' : wd (inoS S B n) 0 = 0 := hk
      unfold validI at hv
      rw [if_pos hk'] at hv
      rw [hk', hv.1, hv.2.1, hv.2.2]
      rfl
    · cases h
  · rename_i he
    exact absurd h he

theorem InodeAllocs_eq (S : List (List UInt8)) (B : List Int) (hS : S.length ≤ maxLen) (hB : B.length ≤ maxLen) : bodyW DC 9 [drv S B] [] = some (.bool true, []) := by
  have hM := small38_eq S B hS
  by_cases hs : SmallD S B
  case neg =>
    (refine gives_iff ?_; refine go_func Try.f9 rfl rfl (by simp [Try.f9]) ?_; dsimp only [codeL, Try.f9, scL, sopsL, guardL, dstAt, loopKey])
    (repeat (first
    | (apply is_ok; (case hw => simp [hM, hs]); (case he => simp [hM, hs]; exact is_rfl))
    | (apply op_no; (case hw => simp [hM, hs]))
    | refine op_nil ?_ | refine next_normal ?_ | refine go_seq ?_ | refine go_region ?_ | refine go_skip ?_ | refine go_block ?_ | refine inb_normal ?_
    | (apply go_yes; (case hc => simp [hM, hs])) | (apply go_no; (case hc => simp [hM, hs]))
    | refine go_exit ?_ | refine next_exit ?_ | refine inb_here ?_ | refine inb_past (by decide) ?_ | refine go_ret ?_ | refine next_ret ?_ | refine inb_ret ?_))
    (apply ends_ok; (case h1 => simp; exact is_rfl); (case h2 => simp; exact is_rfl))
    simp
  have hA := alive38_eq
  have hL := LayoutR_eq S B hB
  have hAl := Alloc_eq S B hB
  by_cases hv : VolP S B
  case neg =>
    rw [layV_no hv] at hL
    have he : (allocF S B 31 1).2 = 9 := by
      have : getE S B (1 : Nat) = 9 := by unfold getE secS; rw [if_neg hv]; rfl
      unfold allocF
      rw [this]
      rfl
    rw [he] at hAl
    (refine gives_iff ?_; refine go_func Try.f9 rfl rfl (by simp [Try.f9]) ?_; dsimp only [codeL, Try.f9, scL, sopsL, guardL, dstAt, loopKey])
    (repeat (first
    | (apply is_ok; (case hw => simp [hM, hs, hL, hAl, hA]); (case he => simp [hM, hs, hL, hAl, hA]; exact is_rfl))
    | (apply op_no; (case hw => simp [hM, hs, hL, hAl, hA]))
    | refine op_nil ?_ | refine next_normal ?_ | refine go_seq ?_ | refine go_region ?_ | refine go_skip ?_ | refine go_block ?_ | refine inb_normal ?_
    | (apply go_yes; (case hc => simp [hM, hs, hL, hAl, hA])) | (apply go_no; (case hc => simp [hM, hs, hL, hAl, hA]))
    | refine go_exit ?_ | refine next_exit ?_ | refine inb_here ?_ | refine inb_past (by decide) ?_ | refine go_ret ?_ | refine next_ret ?_ | refine inb_ret ?_))
    (apply ends_ok; (case h1 => simp; exact is_rfl); (case h2 => simp; exact is_rfl))
    simp
  rw [layV_yes hv] at hL
  have hz := allocF_zero S B 31 1
  have hn := allocF_err S B 31 1
  generalize hR : allocF S B 31 1 = R at hAl hz hn
  obtain ⟨r, e⟩ := R
  dsimp only at hAl hz hn
  obtain ⟨last, hlast⟩ : ∃ last : Nat, (last : Int) = if e = 0 then r else 32 := by
    by_cases he : e = 0
    · have := hz he
      exact ⟨r.toNat, by rw [if_pos he]; omega⟩
    · exact ⟨32, by rw [if_neg he]; rfl⟩
  have hle : last ≤ 32 := by
    by_cases he : e = 0
    · have := hz he
      rw [if_pos he] at hlast; omega
    · rw [if_neg he] at hlast; omega
  have hl1 : 1 ≤ last := by
    by_cases he : e = 0
    · have := hz he
      rw [if_pos he] at hlast; omega
    · rw [if_neg he] at hlast; omega
  (refine gives_iff ?_; refine go_func Try.f9 rfl rfl (by simp [Try.f9]) ?_; dsimp only [codeL, Try.f9, scL, sopsL, guardL, dstAt, loopKey])
  by_cases he : e = 0
  · rw [if_pos he] at hlast
    subst he
    have hzr := hz rfl
    (repeat (first
    | (apply is_ok; (case hw => simp [hM, hs, hL, hAl]); (case he => simp [hM, hs, hL, hAl]; exact is_rfl))
    | (apply op_no; (case hw => simp [hM, hs, hL, hAl]))
    | refine op_nil ?_ | refine next_normal ?_ | refine go_seq ?_ | refine go_region ?_ | refine go_skip ?_ | refine go_block ?_ | refine inb_normal ?_
    | (apply go_yes; (case hc => simp [hM, hs, hL, hAl])) | (apply go_no; (case hc => simp [hM, hs, hL, hAl]))
    | refine go_exit ?_ | refine next_exit ?_ | refine inb_here ?_ | refine inb_past (by decide) ?_ | refine go_ret ?_ | refine next_ret ?_ | refine inb_ret ?_))
    refine go_count (last - 1) (fun i => [(1, .ptr 0 1 0 0), (8, .int .i64 r), (9, .int .i64 0), (10, .int .i64 r), (11, .int .i64 ((i + 1 : Nat) : Int))]) (fun _ => [.box (drv S B)]) (fun i => allocF S B (31 - i) (i + 1) = (r, 0)) (by simp) hR fun i hi hI => ?_
    generalize hj : i + 1 = j at hI
    have hw : IntKind.i64.wrap ((j : Int) + 1) = ((j + 1 : Nat) : Int) := wrap_id (by omega) (by omega)
    by_cases hlt : j < last
    · have hlt' : (j : Int) < r := by omega
      have hf : 31 - i = (31 - (i + 1)) + 1 := by omega
      rw [hf, allocF] at hI
      have hG := Get38_eq S B hB j
      obtain ⟨k, l, z, a, b, c, d, e, f, g, h, hsh, _⟩ := getV_shape S B j
      have hkv : kindV (getV S B j) = k := by rw [hsh]; rfl
      rw [hsh] at hG
      by_cases he : getE S B j = 0
      · rw [if_neg (by simpa using he)] at hI
        rw [he] at hG
        by_cases hk : k = 0
        · rw [if_pos (by rw [hkv]; exact hk)] at hI
          simp at hI
          omega
        · rw [if_neg (by rw [hkv]; exact hk)] at hI
          (repeat (first
    | (apply is_ok; (case hw => simp [hlt', hG, hk]); (case he => simp [hlt', hG, hk]; exact is_rfl))
    | (apply op_no; (case hw => simp [hlt', hG, hk]))
    | refine op_nil ?_ | refine next_normal ?_ | refine go_seq ?_ | refine go_region ?_ | refine go_skip ?_ | refine go_block ?_ | refine inb_normal ?_
    | (apply go_yes; (case hc => simp [hlt', hG, hk])) | (apply go_no; (case hc => simp [hlt', hG, hk]))
    | refine go_exit ?_ | refine next_exit ?_ | refine inb_here ?_ | refine inb_past (by decide) ?_ | refine go_ret ?_ | refine next_ret ?_ | refine inb_ret ?_))
          exact ⟨by omega, by simp [hw, hj], by rw [hj] at hI; exact hI⟩
      · rw [if_pos he] at hI
        simp at hI
        exact absurd hI.2 he
    · have hjr : (j : Int) = r := by omega
      have hlt' : ¬ (j : Int) < r := by omega
      have hf : 31 - i = (31 - (i + 1)) + 1 := by omega
      rw [hf, allocF] at hI
      have hG := Get38_eq S B hB j
      by_cases he : getE S B j = 0
      · rw [if_neg (by simpa using he)] at hI
        by_cases hk : kindV (getV S B j) = 0
        · rw [getV_free he hk, he, hjr] at hG
          have hE := same_ino 0 0 0 0 0 0 0 0 0 0 0
          (repeat (first
    | (apply is_ok; (case hw => simp [-binV, hlt', hG, hA, hE]); (case he => simp [-binV, hlt', hG, hA, hE]; exact is_rfl))
    | (apply op_no; (case hw => simp [-binV, hlt', hG, hA, hE]))
    | refine op_nil ?_ | refine next_normal ?_ | refine go_seq ?_ | refine go_region ?_ | refine go_skip ?_ | refine go_block ?_ | refine inb_normal ?_
    | (apply go_yes; (case hc => simp [-binV, hlt', hG, hA, hE])) | (apply go_no; (case hc => simp [-binV, hlt', hG, hA, hE]))
    | refine go_exit ?_ | refine next_exit ?_ | refine inb_here ?_ | refine inb_past (by decide) ?_ | refine go_ret ?_ | refine next_ret ?_ | refine inb_ret ?_))
          (apply ends_ok; (case h1 => simp; exact is_rfl); (case h2 => simp; exact is_rfl))
          simp
        · rw [if_neg hk] at hI
          have := allocF_zero S B (31 - (i + 1)) (j + 1)
          rw [hI] at this
          have := this rfl
          omega
      · rw [if_pos he] at hI
        simp at hI
        exact absurd hI.2 he
  · rw [if_neg he] at hlast
    have hr0 := hn he
    subst hr0
    (repeat (first
    | (apply is_ok; (case hw => simp [hM, hs, hL, hAl, he]); (case he => simp [hM, hs, hL, hAl, he]; exact is_rfl))
    | (apply op_no; (case hw => simp [hM, hs, hL, hAl, he]))
    | refine op_nil ?_ | refine next_normal ?_ | refine go_seq ?_ | refine go_region ?_ | refine go_skip ?_ | refine go_block ?_ | refine inb_normal ?_
    | (apply go_yes; (case hc => simp [hM, hs, hL, hAl, he])) | (apply go_no; (case hc => simp [hM, hs, hL, hAl, he]))
    | refine go_exit ?_ | refine next_exit ?_ | refine inb_here ?_ | refine inb_past (by decide) ?_ | refine go_ret ?_ | refine next_ret ?_ | refine inb_ret ?_))
    refine go_count (last - 1) (fun i => [(1, .ptr 0 1 0 0), (8, .int .i64 0), (9, .int .i64 e), (10, .int .i64 32), (11, .int .i64 ((i + 1 : Nat) : Int))]) (fun _ => [.box (drv S B)]) (fun i => allocF S B (31 - i) (i + 1) = (0, e)) (by simp) hR fun i hi hI => ?_
    generalize hj : i + 1 = j at hI
    have hw : IntKind.i64.wrap ((j : Int) + 1) = ((j + 1 : Nat) : Int) := wrap_id (by omega) (by omega)
    by_cases hlt : j < last
    · have hlt' : (j : Int) < 32 := by omega
      have hf : 31 - i = (31 - (i + 1)) + 1 := by omega
      rw [hf, allocF] at hI
      have hG := Get38_eq S B hB j
      obtain ⟨k, l, z, a, b, c, d, e', f, g, h, hsh, _⟩ := getV_shape S B j
      have hkv : kindV (getV S B j) = k := by rw [hsh]; rfl
      rw [hsh] at hG
      by_cases he' : getE S B j = 0
      · rw [if_neg (by simpa using he')] at hI
        rw [he'] at hG
        by_cases hk : k = 0
        · rw [if_pos (by rw [hkv]; exact hk)] at hI
          simp at hI
          omega
        · rw [if_neg (by rw [hkv]; exact hk)] at hI
          (repeat (first
    | (apply is_ok; (case hw => simp [hlt', hG, hk]); (case he => simp [hlt', hG, hk]; exact is_rfl))
    | (apply op_no; (case hw => simp [hlt', hG, hk]))
    | refine op_nil ?_ | refine next_normal ?_ | refine go_seq ?_ | refine go_region ?_ | refine go_skip ?_ | refine go_block ?_ | refine inb_normal ?_
    | (apply go_yes; (case hc => simp [hlt', hG, hk])) | (apply go_no; (case hc => simp [hlt', hG, hk]))
    | refine go_exit ?_ | refine next_exit ?_ | refine inb_here ?_ | refine inb_past (by decide) ?_ | refine go_ret ?_ | refine next_ret ?_ | refine inb_ret ?_))
          exact ⟨by omega, by simp [hw, hj], by rw [hj] at hI; exact hI⟩
      · rw [if_pos he'] at hI
        simp at hI
        rw [hI] at hG
        (repeat (first
    | (apply is_ok; (case hw => simp [hlt', hG, he, hA]); (case he => simp [hlt', hG, he, hA]; exact is_rfl))
    | (apply op_no; (case hw => simp [hlt', hG, he, hA]))
    | refine op_nil ?_ | refine next_normal ?_ | refine go_seq ?_ | refine go_region ?_ | refine go_skip ?_ | refine go_block ?_ | refine inb_normal ?_
    | (apply go_yes; (case hc => simp [hlt', hG, he, hA])) | (apply go_no; (case hc => simp [hlt', hG, he, hA]))
    | refine go_exit ?_ | refine next_exit ?_ | refine inb_here ?_ | refine inb_past (by decide) ?_ | refine go_ret ?_ | refine next_ret ?_ | refine inb_ret ?_))
        (apply ends_ok; (case h1 => simp; exact is_rfl); (case h2 => simp; exact is_rfl))
        simp
    · have hlt' : ¬ (j : Int) < 32 := by omega
      have hf : 31 - i = 0 := by omega
      rw [hf, allocF] at hI
      simp at hI
      subst hI
      (repeat (first
    | (apply is_ok; (case hw => simp [hlt', hA]); (case he => simp [hlt', hA]; exact is_rfl))
    | (apply op_no; (case hw => simp [hlt', hA]))
    | refine op_nil ?_ | refine next_normal ?_ | refine go_seq ?_ | refine go_region ?_ | refine go_skip ?_ | refine go_block ?_ | refine inb_normal ?_
    | (apply go_yes; (case hc => simp [hlt', hA])) | (apply go_no; (case hc => simp [hlt', hA]))
    | refine go_exit ?_ | refine next_exit ?_ | refine inb_here ?_ | refine inb_past (by decide) ?_ | refine go_ret ?_ | refine next_ret ?_ | refine inb_ret ?_))
      (apply ends_ok; (case h1 => simp; exact is_rfl); (case h2 => simp; exact is_rfl))
      simp
end Go.Abs
