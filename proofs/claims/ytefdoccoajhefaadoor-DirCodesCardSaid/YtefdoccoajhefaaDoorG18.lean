/- Proved here: what functions of the program compute, over the evaluator. No condition but those that each theorem states. -/
import Derived.Test.YtefdoccoajhefaaDoorG17
namespace Go.Abs
open Go.Proofs
set_option maxRecDepth 100000
set_option linter.unusedSimpArgs false
set_option linter.unusedVariables false

theorem parR_shape (s : List UInt8) : ∃ (L : List (List UInt8 × Int)) (e : Int), L.length ≤ s.length ∧ parR s = (.tuple [.own 0 L.length 0 L.length, .int .i64 e], [.dat true 2 (L.map entV)]) := by
  unfold parR
  split
  · refine ⟨decL s (s.length / 16), 0, by simp; omega, ?_⟩
    rw [decL_length]
  · exact ⟨[], 9, by simp, rfl⟩

theorem L_DirCodes (l : List (List UInt8 × Int)) (hl : l.length ≤ maxLen) (s : List UInt8) : bodyW DC 4 [.sl (l.map entV), .str s] [] = some (.bool true, []) := by
  have v1 := few_eq l
  by_cases h1 : Few l
  case neg =>
    rw [decide_eq_false h1] at v1
    by_cases h2 : (1200 : Int) < s.length <;>
    · (refine gives_iff ?_; refine go_func Tryd.f4 rfl rfl (by simp [Tryd.f4]) ?_; dsimp only [codeL, Tryd.f4, scL, sopsL, guardL, dstAt, loopKey])
      (repeat (first
    | (apply is_ok; (case hw => simp [v1, h2, alive39_eq]); (case he => simp [v1, h2, alive39_eq]; exact is_rfl))
    | (apply op_no; (case hw => simp [v1, h2, alive39_eq]))
    | refine op_nil ?_ | refine next_normal ?_ | refine go_seq ?_ | refine go_region ?_ | refine go_skip ?_ | refine go_block ?_ | refine inb_normal ?_
    | (apply go_yes; (case hc => simp [v1, h2, alive39_eq])) | (apply go_no; (case hc => simp [v1, h2, alive39_eq]))
    | refine go_exit ?_ | refine next_exit ?_ | refine inb_here ?_ | refine inb_past (by decide) ?_ | refine go_ret ?_ | refine next_ret ?_ | refine inb_ret ?_))
      (apply ends_ok; (case h1 => simp; exact is_rfl); (case h2 => simp; exact is_rfl))
      exact ⟨rfl, rfl⟩
  rw [decide_eq_true h1] at v1
  by_cases h2 : (1200 : Int) < s.length
  · (refine gives_iff ?_; refine go_func Tryd.f4 rfl rfl (by simp [Tryd.f4]) ?_; dsimp only [codeL, Tryd.f4, scL, sopsL, guardL, dstAt, loopKey])
    (repeat (first
    | (apply is_ok; (case hw => simp [v1, h2, alive39_eq]); (case he => simp [v1, h2, alive39_eq]; exact is_rfl))
    | (apply op_no; (case hw => simp [v1, h2, alive39_eq]))
    | refine op_nil ?_ | refine next_normal ?_ | refine go_seq ?_ | refine go_region ?_ | refine go_skip ?_ | refine go_block ?_ | refine inb_normal ?_
    | (apply go_yes; (case hc => simp [v1, h2, alive39_eq])) | (apply go_no; (case hc => simp [v1, h2, alive39_eq]))
    | refine go_exit ?_ | refine next_exit ?_ | refine inb_here ?_ | refine inb_past (by decide) ?_ | refine go_ret ?_ | refine next_ret ?_ | refine inb_ret ?_))
    (apply ends_ok; (case h1 => simp; exact is_rfl); (case h2 => simp; exact is_rfl))
    exact ⟨rfl, rfl⟩
  have v2 := Bytes_eq l h1.1
  have v3 := BytesR_eq l h1.1
  obtain ⟨b, e, hb⟩ : ∃ b e, (if 64 < l.length then V.tuple [.str [], .int .i64 12] else if validB [] l = true then .tuple [.str (encL l), .int .i64 0] else .tuple [.str [], .int .i64 9]) = .tuple [.str b, .int .i64 e] := by
    split
    · exact ⟨_, _, rfl⟩
    · split <;> exact ⟨_, _, rfl⟩
  rw [hb] at v2 v3
  have v4 := Parse_eq s (by omega)
  have v5 := ParseR_eq s (by omega)
  obtain ⟨L, g, hL, hp⟩ := parR_shape s
  rw [hp] at v4 v5
  have v6 := SameE_refl L (by unfold maxLen; omega)
  (refine gives_iff ?_; refine go_func Tryd.f4 rfl rfl (by simp [Tryd.f4]) ?_; dsimp only [codeL, Tryd.f4, scL, sopsL, guardL, dstAt, loopKey])
  (repeat (first
    | (apply is_ok; (case hw => simp [v1, h2, v2, v3, v4, v5, v6, alive39_eq]); (case he => simp [v1, h2, v2, v3, v4, v5, v6, alive39_eq]; exact is_rfl))
    | (apply op_no; (case hw => simp [v1, h2, v2, v3, v4, v5, v6, alive39_eq]))
    | refine op_nil ?_ | refine next_normal ?_ | refine go_seq ?_ | refine go_region ?_ | refine go_skip ?_ | refine go_block ?_ | refine inb_normal ?_
    | (apply go_yes; (case hc => simp [v1, h2, v2, v3, v4, v5, v6, alive39_eq])) | (apply go_no; (case hc => simp [v1, h2, v2, v3, v4, v5, v6, alive39_eq]))
    | refine go_exit ?_ | refine next_exit ?_ | refine inb_here ?_ | refine inb_past (by decide) ?_ | refine go_ret ?_ | refine next_ret ?_ | refine inb_ret ?_))
  (apply ends_ok; (case h1 => simp; exact is_rfl); (case h2 => simp; exact is_rfl))
  exact ⟨rfl, rfl⟩

/-- The second half of DirBack: what is parsed is encoded again. -/
theorem back_s (s : List UInt8) (hs : s.length ≤ 1200) (h : parE s = 0) : validB [] (decL s (s.length / 16)) = true ∧ s.length / 16 ≤ 64 ∧ encL (decL s (s.length / 16)) = s := by
  unfold parE at h
  split at h
  · cases h
  split at h
  · rename_i h1 h2
    rw [Bool.and_eq_true, decide_eq_true_eq] at h2
    exact ⟨h2.1, h2.2, enc_decL _ s (by omega)⟩
  · cases h
theorem parE_or (s : List UInt8) : parE s = 0 ∨ parE s = 9 := by
  unfold parE
  split
  · exact .inr rfl
  · split
    · exact .inl rfl
    · exact .inr rfl
theorem par_enc {l : List (List UInt8 × Int)} (hv : validB [] l = true) (h64 : l.length ≤ 64) : parR (encL l) = (.tuple [.own 0 l.length 0 l.length, .int .i64 0], [.dat true 2 (l.map entV)]) := by
  obtain ⟨_, _, hok⟩ := validB_sort l [] hv
  have hlen := encL_length hok
  have hd := dec_encL l hok
  have e1 : (encL l).length / 16 = l.length := by omega
  have hp : parE (encL l) = 0 := by
    unfold parE
    rw [if_neg (by omega), e1, hd, hv, decide_eq_true h64]
    rfl
  rw [parR_ok hp, e1, hd]

theorem L_DirBack (l : List (List UInt8 × Int)) (hl : l.length ≤ maxLen) (s : List UInt8) : bodyW DC 5 [.sl (l.map entV), .str s] [] = some (.bool true, []) := by
  have v1 := few_eq l
  by_cases h1 : Few l
  case neg =>
    rw [decide_eq_false h1] at v1
    by_cases h2 : (1200 : Int) < s.length <;>
    · (refine gives_iff ?_; refine go_func Tryd.f5 rfl rfl (by simp [Tryd.f5]) ?_; dsimp only [codeL, Tryd.f5, scL, sopsL, guardL, dstAt, loopKey])
      (repeat (first
    | (apply is_ok; (case hw => simp [v1, h2, alive39_eq]); (case he => simp [v1, h2, alive39_eq]; exact is_rfl))
    | (apply op_no; (case hw => simp [v1, h2, alive39_eq]))
    | refine op_nil ?_ | refine next_normal ?_ | refine go_seq ?_ | refine go_region ?_ | refine go_skip ?_ | refine go_block ?_ | refine inb_normal ?_
    | (apply go_yes; (case hc => simp [v1, h2, alive39_eq])) | (apply go_no; (case hc => simp [v1, h2, alive39_eq]))
    | refine go_exit ?_ | refine next_exit ?_ | refine inb_here ?_ | refine inb_past (by decide) ?_ | refine go_ret ?_ | refine next_ret ?_ | refine inb_ret ?_))
      (apply ends_ok; (case h1 => simp; exact is_rfl); (case h2 => simp; exact is_rfl))
      exact ⟨rfl, rfl⟩
  rw [decide_eq_true h1] at v1
  by_cases h2 : (1200 : Int) < s.length
  · (refine gives_iff ?_; refine go_func Tryd.f5 rfl rfl (by simp [Tryd.f5]) ?_; dsimp only [codeL, Tryd.f5, scL, sopsL, guardL, dstAt, loopKey])
    (repeat (first
    | (apply is_ok; (case hw => simp [v1, h2, alive39_eq]); (case he => simp [v1, h2, alive39_eq]; exact is_rfl))
    | (apply op_no; (case hw => simp [v1, h2, alive39_eq]))
    | refine op_nil ?_ | refine next_normal ?_ | refine go_seq ?_ | refine go_region ?_ | refine go_skip ?_ | refine go_block ?_ | refine inb_normal ?_
    | (apply go_yes; (case hc => simp [v1, h2, alive39_eq])) | (apply go_no; (case hc => simp [v1, h2, alive39_eq]))
    | refine go_exit ?_ | refine next_exit ?_ | refine inb_here ?_ | refine inb_past (by decide) ?_ | refine go_ret ?_ | refine next_ret ?_ | refine inb_ret ?_))
    (apply ends_ok; (case h1 => simp; exact is_rfl); (case h2 => simp; exact is_rfl))
    exact ⟨rfl, rfl⟩
  have hl70 := h1.1
  have v2 := Bytes_eq l h1.1
  have v4 := Parse_eq s (by omega)
  -- the last step, for what Parse gives
  rcases parE_or s with hp | hp
  · obtain ⟨p1, p2, p3⟩ := back_s s (by omega) hp
    have v5 := Bytes_eq (decL s (s.length / 16)) (by simp; omega)
    rw [decL_length, if_neg (by omega), if_pos p1, p3] at v5
    rw [parR_ok hp] at v4
    have hN := decL_length s (s.length / 16)
    generalize decL s (s.length / 16) = M at v4 v5 hN
    rw [← hN] at v4
    by_cases h3 : l.length ≤ 64 ∧ validB [] l = true
    · obtain ⟨h3, h4⟩ := h3
      obtain ⟨_, _, hok⟩ := validB_sort l [] h4
      have hlen := encL_length hok
      rw [if_neg (by omega), if_pos h4] at v2
      have v6 := Parse_eq (encL l) (by omega)
      rw [par_enc h4 h3] at v6
      have v7 := SameE_refl l hl
      have w1 : IntKind.i64.wrap (16 * (l.length : Int)) = 16 * (l.length : Int) := wrap_id (by omega) (by omega)
      have w2 : ((encL l).length : Int) = 16 * (l.length : Int) := by omega
      generalize encL l = B at v2 v6 w2 hlen
      (refine gives_iff ?_; refine go_func Tryd.f5 rfl rfl (by simp [Tryd.f5]) ?_; dsimp only [codeL, Tryd.f5, scL, sopsL, guardL, dstAt, loopKey])
      (repeat (first
    | (apply is_ok; (case hw => simp [v1, h2, v2, v4, v5, v6, v7, w1, hlen, alive39_eq]); (case he => simp [v1, h2, v2, v4, v5, v6, v7, w1, hlen, alive39_eq]; exact is_rfl))
    | (apply op_no; (case hw => simp [v1, h2, v2, v4, v5, v6, v7, w1, hlen, alive39_eq]))
    | refine op_nil ?_ | refine next_normal ?_ | refine go_seq ?_ | refine go_region ?_ | refine go_skip ?_ | refine go_block ?_ | refine inb_normal ?_
    | (apply go_yes; (case hc => simp [v1, h2, v2, v4, v5, v6, v7, w1, hlen, alive39_eq])) | (apply go_no; (case hc => simp [v1, h2, v2, v4, v5, v6, v7, w1, hlen, alive39_eq]))
    | refine go_exit ?_ | refine next_exit ?_ | refine inb_here ?_ | refine inb_past (by decide) ?_ | refine go_ret ?_ | refine next_ret ?_ | refine inb_ret ?_))
      (apply ends_ok; (case h1 => simp; exact is_rfl); (case h2 => simp; exact is_rfl))
      exact ⟨rfl, rfl⟩
    · obtain ⟨e, hb, he⟩ : ∃ e, (if 64 < l.length then V.tuple [.str [], .int .i64 12] else if validB [] l = true then .tuple [.str (encL l), .int .i64 0] else .tuple [.str [], .int .i64 9]) = .tuple [.str [], .int .i64 e] ∧ e ≠ 0 := by
        split
        · exact ⟨_, rfl, by decide⟩
        · split
          · exact absurd ⟨by omega, by assumption⟩ h3
          · exact ⟨_, rfl, by decide⟩
      rw [hb] at v2
      (refine gives_iff ?_; refine go_func Tryd.f5 rfl rfl (by simp [Tryd.f5]) ?_; dsimp only [codeL, Tryd.f5, scL, sopsL, guardL, dstAt, loopKey])
      (repeat (first
    | (apply is_ok; (case hw => simp [v1, h2, v2, v4, v5, he, alive39_eq]); (case he => simp [v1, h2, v2, v4, v5, he, alive39_eq]; exact is_rfl))
    | (apply op_no; (case hw => simp [v1, h2, v2, v4, v5, he, alive39_eq]))
    | refine op_nil ?_ | refine next_normal ?_ | refine go_seq ?_ | refine go_region ?_ | refine go_skip ?_ | refine go_block ?_ | refine inb_normal ?_
    | (apply go_yes; (case hc => simp [v1, h2, v2, v4, v5, he, alive39_eq])) | (apply go_no; (case hc => simp [v1, h2, v2, v4, v5, he, alive39_eq]))
    | refine go_exit ?_ | refine next_exit ?_ | refine inb_here ?_ | refine inb_past (by decide) ?_ | refine go_ret ?_ | refine next_ret ?_ | refine inb_ret ?_))
      (apply ends_ok; (case h1 => simp; exact is_rfl); (case h2 => simp; exact is_rfl))
      exact ⟨rfl, rfl⟩
  · rw [parR_err hp] at v4
    by_cases h3 : l.length ≤ 64 ∧ validB [] l = true
    · obtain ⟨h3, h4⟩ := h3
      obtain ⟨_, _, hok⟩ := validB_sort l [] h4
      have hlen := encL_length hok
      rw [if_neg (by omega), if_pos h4] at v2
      have v6 := Parse_eq (encL l) (by omega)
      rw [par_enc h4 h3] at v6
      have v7 := SameE_refl l hl
      have w1 : IntKind.i64.wrap (16 * (l.length : Int)) = 16 * (l.length : Int) := wrap_id (by omega) (by omega)
      generalize encL l = B at v2 v6 hlen
      (refine gives_iff ?_; refine go_func Tryd.f5 rfl rfl (by simp [Tryd.f5]) ?_; dsimp only [codeL, Tryd.f5, scL, sopsL, guardL, dstAt, loopKey])
      (repeat (first
    | (apply is_ok; (case hw => simp [v1, h2, v2, v4, v6, v7, w1, hlen, alive39_eq]); (case he => simp [v1, h2, v2, v4, v6, v7, w1, hlen, alive39_eq]; exact is_rfl))
    | (apply op_no; (case hw => simp [v1, h2, v2, v4, v6, v7, w1, hlen, alive39_eq]))
    | refine op_nil ?_ | refine next_normal ?_ | refine go_seq ?_ | refine go_region ?_ | refine go_skip ?_ | refine go_block ?_ | refine inb_normal ?_
    | (apply go_yes; (case hc => simp [v1, h2, v2, v4, v6, v7, w1, hlen, alive39_eq])) | (apply go_no; (case hc => simp [v1, h2, v2, v4, v6, v7, w1, hlen, alive39_eq]))
    | refine go_exit ?_ | refine next_exit ?_ | refine inb_here ?_ | refine inb_past (by decide) ?_ | refine go_ret ?_ | refine next_ret ?_ | refine inb_ret ?_))
      (apply ends_ok; (case h1 => simp; exact is_rfl); (case h2 => simp; exact is_rfl))
      exact ⟨rfl, rfl⟩
    · obtain ⟨e, hb, he⟩ : ∃ e, (if 64 < l.length then V.tuple [.str [], .int .i64 12] else if validB [] l = true then .tuple [.str (encL l), .int .i64 0] else .tuple [.str [], .int .i64 9]) = .tuple [.str [], .int .i64 e] ∧ e ≠ 0 := by
        split
        · exact ⟨_, rfl, by decide⟩
        · split
          · exact absurd ⟨by omega, by assumption⟩ h3
          · exact ⟨_, rfl, by decide⟩
      rw [hb] at v2
      (refine gives_iff ?_; refine go_func Tryd.f5 rfl rfl (by simp [Tryd.f5]) ?_; dsimp only [codeL, Tryd.f5, scL, sopsL, guardL, dstAt, loopKey])
      (repeat (first
    | (apply is_ok; (case hw => simp [v1, h2, v2, v4, he, alive39_eq]); (case he => simp [v1, h2, v2, v4, he, alive39_eq]; exact is_rfl))
    | (apply op_no; (case hw => simp [v1, h2, v2, v4, he, alive39_eq]))
    | refine op_nil ?_ | refine next_normal ?_ | refine go_seq ?_ | refine go_region ?_ | refine go_skip ?_ | refine go_block ?_ | refine inb_normal ?_
    | (apply go_yes; (case hc => simp [v1, h2, v2, v4, he, alive39_eq])) | (apply go_no; (case hc => simp [v1, h2, v2, v4, he, alive39_eq]))
    | refine go_exit ?_ | refine next_exit ?_ | refine inb_here ?_ | refine inb_past (by decide) ?_ | refine go_ret ?_ | refine next_ret ?_ | refine inb_ret ?_))
      (apply ends_ok; (case h1 => simp; exact is_rfl); (case h2 => simp; exact is_rfl))
      exact ⟨rfl, rfl⟩
end Go.Abs
