/- Proved here: what functions of the program compute, over the evaluator. No condition but those that each theorem states. -/
import Derived.Test.YtpffmpllnpmkbaaE10
namespace Go.Abs
open Go.Proofs
set_option maxRecDepth 100000
set_option linter.unusedSimpArgs false
set_option linter.unusedVariables false

/-- The sector of an inode. -/
def secS (S : List (List UInt8)) (B : List Int) (n : Int) : List UInt8 × Int := if VolP S B then if 1 ≤ n ∧ n < 32 then readS S B (19 + n / 4) else ([], 2) else ([], 9)

theorem layV_no {S : List (List UInt8)} {B : List Int} (h : ¬ VolP S B) : layV S B = .tuple [.agg [.int .i64 0, .int .i64 0], .agg [.int .i64 0, .int .i64 0], .int .i64 9] := by unfold layV; rw [if_neg h]
theorem layV_yes {S : List (List UInt8)} {B : List Int} (h : VolP S B) : layV S B = .tuple [.agg [.int .i64 27, .int .i64 (S.length - swapW S - 27)], .agg [.int .i64 (S.length - swapW S), .int .i64 (swapW S)], .int .i64 0] := by unfold layV; rw [if_pos h]

theorem sector_eq (S : List (List UInt8)) (B : List Int) (hB : B.length ≤ maxLen) (n : Int) : bodyW DC 47 [drv S B, .int .i64 n] [] = some (.tuple [.str (secS S B n).1, .int .i64 (secS S B n).2], []) := by
  have hL := Layout_eq S B hB
  unfold secS
  by_cases hv : VolP S B
  case neg =>
    rw [layV_no hv] at hL
    rw [if_neg hv]
    (refine gives_iff ?_; refine go_func Try.f47 rfl rfl (by simp [Try.f47]) ?_; dsimp only [codeL, Try.f47, scL, sopsL, guardL, dstAt, loopKey])
    (repeat (first
    | (apply is_ok; (case hw => simp [hL]); (case he => simp [hL]; exact is_rfl))
    | (apply op_no; (case hw => simp [hL]))
    | refine op_nil ?_ | refine next_normal ?_ | refine go_seq ?_ | refine go_region ?_ | refine go_skip ?_ | refine go_block ?_ | refine inb_normal ?_
    | (apply go_yes; (case hc => simp [hL])) | (apply go_no; (case hc => simp [hL]))
    | refine go_exit ?_ | refine next_exit ?_ | refine inb_here ?_ | refine inb_past (by decide) ?_ | refine go_ret ?_ | refine next_ret ?_ | refine inb_ret ?_))
    (apply ends_ok; (case h1 => simp; exact is_rfl); (case h2 => simp; exact is_rfl))
    simp
  rw [layV_yes hv] at hL
  rw [if_pos hv]
  by_cases h1 : 1 ≤ n
  case neg =>
    have h1' : n < 1 := by omega
    rw [if_neg (fun h => h1 h.1)]
    (refine gives_iff ?_; refine go_func Try.f47 rfl rfl (by simp [Try.f47]) ?_; dsimp only [codeL, Try.f47, scL, sopsL, guardL, dstAt, loopKey])
    (repeat (first
    | (apply is_ok; (case hw => simp [hL, h1, h1']); (case he => simp [hL, h1, h1']; exact is_rfl))
    | (apply op_no; (case hw => simp [hL, h1, h1']))
    | refine op_nil ?_ | refine next_normal ?_ | refine go_seq ?_ | refine go_region ?_ | refine go_skip ?_ | refine go_block ?_ | refine inb_normal ?_
    | (apply go_yes; (case hc => simp [hL, h1, h1'])) | (apply go_no; (case hc => simp [hL, h1, h1']))
    | refine go_exit ?_ | refine next_exit ?_ | refine inb_here ?_ | refine inb_past (by decide) ?_ | refine go_ret ?_ | refine next_ret ?_ | refine inb_ret ?_))
    (apply ends_ok; (case h1 => simp; exact is_rfl); (case h2 => simp; exact is_rfl))
    simp
  have h1' : ¬ n < 1 := by omega
  by_cases h2 : n < 32
  case neg =>
    have h2' : 32 ≤ n := by omega
    rw [if_neg (fun h => h2 h.2)]
    (refine gives_iff ?_; refine go_func Try.f47 rfl rfl (by simp [Try.f47]) ?_; dsimp only [codeL, Try.f47, scL, sopsL, guardL, dstAt, loopKey])
    (repeat (first
    | (apply is_ok; (case hw => simp [hL, h1, h1', h2, h2']); (case he => simp [hL, h1, h1', h2, h2']; exact is_rfl))
    | (apply op_no; (case hw => simp [hL, h1, h1', h2, h2']))
    | refine op_nil ?_ | refine next_normal ?_ | refine go_seq ?_ | refine go_region ?_ | refine go_skip ?_ | refine go_block ?_ | refine inb_normal ?_
    | (apply go_yes; (case hc => simp [hL, h1, h1', h2, h2'])) | (apply go_no; (case hc => simp [hL, h1, h1', h2, h2']))
    | refine go_exit ?_ | refine next_exit ?_ | refine inb_here ?_ | refine inb_past (by decide) ?_ | refine go_ret ?_ | refine next_ret ?_ | refine inb_ret ?_))
    (apply ends_ok; (case h1 => simp; exact is_rfl); (case h2 => simp; exact is_rfl))
    simp
  have h2' : ¬ 32 ≤ n := by omega
  rw [if_pos ⟨h1, h2⟩]
  have hR := Read_eq S B hB (19 + n / 4)
  have f1 : n.tdiv 4 = n / 4 := Int.tdiv_eq_ediv_of_nonneg (by omega)
  have f2 : IntKind.i64.wrap (n / 4) = n / 4 := wrap_id (by omega) (by omega)
  have f3 : IntKind.i64.wrap (19 + n / 4) = 19 + n / 4 := wrap_id (by omega) (by omega)
  generalize n / 4 = d at hR f1 f2 f3
  generalize readS S B (19 + d) = r at hR
  (refine gives_iff ?_; refine go_func Try.f47 rfl rfl (by simp [Try.f47]) ?_; dsimp only [codeL, Try.f47, scL, sopsL, guardL, dstAt, loopKey])
  (repeat (first
    | (apply is_ok; (case hw => simp [hL, h1, h1', h2, h2', hR, f1, f2, f3]); (case he => simp [hL, h1, h1', h2, h2', hR, f1, f2, f3]; exact is_rfl))
    | (apply op_no; (case hw => simp [hL, h1, h1', h2, h2', hR, f1, f2, f3]))
    | refine op_nil ?_ | refine next_normal ?_ | refine go_seq ?_ | refine go_region ?_ | refine go_skip ?_ | refine go_block ?_ | refine inb_normal ?_
    | (apply go_yes; (case hc => simp [hL, h1, h1', h2, h2', hR, f1, f2, f3])) | (apply go_no; (case hc => simp [hL, h1, h1', h2, h2', hR, f1, f2, f3]))
    | refine go_exit ?_ | refine next_exit ?_ | refine inb_here ?_ | refine inb_past (by decide) ?_ | refine go_ret ?_ | refine next_ret ?_ | refine inb_ret ?_))
  (apply ends_ok; (case h1 => simp; exact is_rfl); (case h2 => simp; exact is_rfl))
  simp

theorem sectorR_eq (S : List (List UInt8)) (B : List Int) (hB : B.length ≤ maxLen) (n : Int) : ∃ p, bodyW DC 48 [drv S B, .int .i64 n] [] = some (.tuple [.str (secS S B n).1, .int .i64 p, .int .i64 (secS S B n).2], []) ∧ (VolP S B → 1 ≤ n → n < 32 → p = 19 + n / 4) := by
  have hL := LayoutR_eq S B hB
  unfold secS
  by_cases hv : VolP S B
  case neg =>
    rw [layV_no hv] at hL
    rw [if_neg hv]
    refine ⟨0, ?_, fun h => absurd h hv⟩
    (refine gives_iff ?_; refine go_func Try.f48 rfl rfl (by simp [Try.f48]) ?_; dsimp only [codeL, Try.f48, scL, sopsL, guardL, dstAt, loopKey])
    (repeat (first
    | (apply is_ok; (case hw => simp [hL]); (case he => simp [hL]; exact is_rfl))
    | (apply op_no; (case hw => simp [hL]))
    | refine op_nil ?_ | refine next_normal ?_ | refine go_seq ?_ | refine go_region ?_ | refine go_skip ?_ | refine go_block ?_ | refine inb_normal ?_
    | (apply go_yes; (case hc => simp [hL])) | (apply go_no; (case hc => simp [hL]))
    | refine go_exit ?_ | refine next_exit ?_ | refine inb_here ?_ | refine inb_past (by decide) ?_ | refine go_ret ?_ | refine next_ret ?_ | refine inb_ret ?_))
    (apply ends_ok; (case h1 => simp; exact is_rfl); (case h2 => simp; exact is_rfl))
    simp
  rw [layV_yes hv] at hL
  rw [if_pos hv]
  have hN : bodyW DC 73 [.int .i64 n] [] = some (.bool (decide (1 ≤ n ∧ n < 32)), []) := by
    by_cases h1 : 1 ≤ n
    · (refine gives_iff ?_; refine go_func Try.f73 rfl rfl (by simp [Try.f73]) ?_; dsimp only [codeL, Try.f73, scL, sopsL, guardL, dstAt, loopKey])
      (repeat (first
    | (apply is_ok; (case hw => simp [h1]); (case he => simp [h1]; exact is_rfl))
    | (apply op_no; (case hw => simp [h1]))
    | refine op_nil ?_ | refine next_normal ?_ | refine go_seq ?_ | refine go_region ?_ | refine go_skip ?_ | refine go_block ?_ | refine inb_normal ?_
    | (apply go_yes; (case hc => simp [h1])) | (apply go_no; (case hc => simp [h1]))
    | refine go_exit ?_ | refine next_exit ?_ | refine inb_here ?_ | refine inb_past (by decide) ?_ | refine go_ret ?_ | refine next_ret ?_ | refine inb_ret ?_))
      (apply ends_ok; (case h1 => simp; exact is_rfl); (case h2 => simp; exact is_rfl))
      simp [h1]
    · (refine gives_iff ?_; refine go_func Try.f73 rfl rfl (by simp [Try.f73]) ?_; dsimp only [codeL, Try.f73, scL, sopsL, guardL, dstAt, loopKey])
      (repeat (first
    | (apply is_ok; (case hw => simp [h1]); (case he => simp [h1]; exact is_rfl))
    | (apply op_no; (case hw => simp [h1]))
    | refine op_nil ?_ | refine next_normal ?_ | refine go_seq ?_ | refine go_region ?_ | refine go_skip ?_ | refine go_block ?_ | refine inb_normal ?_
    | (apply go_yes; (case hc => simp [h1])) | (apply go_no; (case hc => simp [h1]))
    | refine go_exit ?_ | refine next_exit ?_ | refine inb_here ?_ | refine inb_past (by decide) ?_ | refine go_ret ?_ | refine next_ret ?_ | refine inb_ret ?_))
      (apply ends_ok; (case h1 => simp; exact is_rfl); (case h2 => simp; exact is_rfl))
      simp [h1]
  by_cases h1 : 1 ≤ n ∧ n < 32
  case neg =>
    rw [if_neg h1]
    rw [decide_eq_false h1] at hN
    refine ⟨0, ?_, fun _ h2 h3 => absurd ⟨h2, h3⟩ h1⟩
    (refine gives_iff ?_; refine go_func Try.f48 rfl rfl (by simp [Try.f48]) ?_; dsimp only [codeL, Try.f48, scL, sopsL, guardL, dstAt, loopKey])
    (repeat (first
    | (apply is_ok; (case hw => simp [hL, hN]); (case he => simp [hL, hN]; exact is_rfl))
    | (apply op_no; (case hw => simp [hL, hN]))
    | refine op_nil ?_ | refine next_normal ?_ | refine go_seq ?_ | refine go_region ?_ | refine go_skip ?_ | refine go_block ?_ | refine inb_normal ?_
    | (apply go_yes; (case hc => simp [hL, hN])) | (apply go_no; (case hc => simp [hL, hN]))
    | refine go_exit ?_ | refine next_exit ?_ | refine inb_here ?_ | refine inb_past (by decide) ?_ | refine go_ret ?_ | refine next_ret ?_ | refine inb_ret ?_))
    (apply ends_ok; (case h1 => simp; exact is_rfl); (case h2 => simp; exact is_rfl))
    simp
  rw [if_pos h1]
  rw [decide_eq_true h1] at hN
  have hR := ReadR_eq S B hB (19 + n / 4)
  have f1 : n.tdiv 4 = n / 4 := Int.tdiv_eq_ediv_of_nonneg (by omega)
  have f2 : IntKind.i64.wrap (n / 4) = n / 4 := wrap_id (by omega) (by omega)
  have f3 : IntKind.i64.wrap (19 + n / 4) = 19 + n / 4 := wrap_id (by omega) (by omega)
  refine ⟨19 + n / 4, ?_, fun _ _ _ => rfl⟩
  generalize n / 4 = d at hR f1 f2 f3
  generalize readS S B (19 + d) = r at hR
  (refine gives_iff ?_; refine go_func Try.f48 rfl rfl (by simp [Try.f48]) ?_; dsimp only [codeL, Try.f48, scL, sopsL, guardL, dstAt, loopKey])
  (repeat (first
    | (apply is_ok; (case hw => simp [hL, hN, hR, f1, f2, f3]); (case he => simp [hL, hN, hR, f1, f2, f3]; exact is_rfl))
    | (apply op_no; (case hw => simp [hL, hN, hR, f1, f2, f3]))
    | refine op_nil ?_ | refine next_normal ?_ | refine go_seq ?_ | refine go_region ?_ | refine go_skip ?_ | refine go_block ?_ | refine inb_normal ?_
    | (apply go_yes; (case hc => simp [hL, hN, hR, f1, f2, f3])) | (apply go_no; (case hc => simp [hL, hN, hR, f1, f2, f3]))
    | refine go_exit ?_ | refine next_exit ?_ | refine inb_here ?_ | refine inb_past (by decide) ?_ | refine go_ret ?_ | refine next_ret ?_ | refine inb_ret ?_))
  (apply ends_ok; (case h1 => simp; exact is_rfl); (case h2 => simp; exact is_rfl))
  simp

theorem sec_ok {S : List (List UInt8)} {B : List Int} {n : Int} (h : (secS S B n).2 = 0) : VolP S B ∧ 1 ≤ n ∧ n < 32 ∧ (secS S B n).1.length = 128 := by
  unfold secS at h ⊢
  by_cases hv : VolP S B
  · rw [if_pos hv] at h ⊢
    by_cases h1 : 1 ≤ n ∧ n < 32
    · rw [if_pos h1] at h ⊢
      have hb := vol_bounds hv
      unfold readS at h ⊢
      rw [if_pos (by omega)] at h ⊢
      by_cases hi : 19 + n / 4 ∈ B
      · rw [if_pos hi] at h; exact absurd h (by simp)
      · rw [if_neg hi]
        have hlt : (19 + n / 4).toNat < S.length := by omega
        exact ⟨hv, h1.1, h1.2, by rw [getD_at hlt]; exact hv.1.2.2.1 _ (List.getElem_mem hlt)⟩
    · rw [if_neg h1] at h; exact absurd h (by simp)
  · rw [if_neg hv] at h; exact absurd h (by simp)

/-- The text of an inode. -/
def inoS (S : List (List UInt8)) (B : List Int) (n : Int) : List UInt8 := ((secS S B n).1.drop (n.toNat % 4 * 32)).take 32
def getV (S : List (List UInt8)) (B : List Int) (n : Int) : V := if (secS S B n).2 = 0 then parseV (inoS S B n) else ino0
def getE (S : List (List UInt8)) (B : List Int) (n : Int) : Int := if (secS S B n).2 = 0 then parseE (inoS S B n) else (secS S B n).2

theorem Get38_eq (S : List (List UInt8)) (B : List Int) (hB : B.length ≤ maxLen) (n : Int) : bodyW DC 17 [drv S B, .int .i64 n] [] = some (.tuple [getV S B n, .int .i64 (getE S B n)], []) := by
  have hS := sector_eq S B hB n
  unfold getV getE
  by_cases he : (secS S B n).2 = 0
  case neg =>
    rw [if_neg he, if_neg he]
    generalize secS S B n = q at hS he
    (refine gives_iff ?_; refine go_func Try.f17 rfl rfl (by simp [Try.f17]) ?_; dsimp only [codeL, Try.f17, scL, sopsL, guardL, dstAt, loopKey])
    (repeat (first
    | (apply is_ok; (case hw => simp [hS, he]); (case he => simp [hS, he]; exact is_rfl))
    | (apply op_no; (case hw => simp [hS, he]))
    | refine op_nil ?_ | refine next_normal ?_ | refine go_seq ?_ | refine go_region ?_ | refine go_skip ?_ | refine go_block ?_ | refine inb_normal ?_
    | (apply go_yes; (case hc => simp [hS, he])) | (apply go_no; (case hc => simp [hS, he]))
    | refine go_exit ?_ | refine next_exit ?_ | refine inb_here ?_ | refine inb_past (by decide) ?_ | refine go_ret ?_ | refine next_ret ?_ | refine inb_ret ?_))
    (apply ends_ok; (case h1 => simp; exact is_rfl); (case h2 => simp; exact is_rfl))
    simp
  obtain ⟨hv, h1, h2, hl⟩ := sec_ok he
  rw [if_pos he, if_pos he]
  have hP := Parse_eq (inoS S B n)
  obtain ⟨k, l, z, a, b, c, d, e, f, g, h, hsh, _⟩ := parseV_shape (inoS S B n)
  rw [hsh] at hP ⊢
  generalize parseE (inoS S B n) = ee at hP ⊢
  unfold inoS at hP
  rw [he] at hS
  generalize (secS S B n).1 = s at hS hl hP
  obtain ⟨m, rfl⟩ : ∃ m : Nat, n = m := ⟨n.toNat, by omega⟩
  have f1 : (m : Int).tmod 4 = ((m % 4 : Nat) : Int) := by rw [Int.tmod_eq_emod_of_nonneg (by omega)]; rfl
  have hr : m % 4 < 4 := Nat.mod_lt _ (by omega)
  rw [Int.toNat_natCast] at hP
  generalize m % 4 = r at f1 hr hP
  have f2 : IntKind.i64.wrap ((r : Int) * 32) = ((r * 32 : Nat) : Int) := by rw [wrap_id (by omega) (by omega)]; omega
  generalize ha : r * 32 = t at f2 hP
  have g1 : t ≤ s.length := by omega
  have g2 : 32 ≤ s.length - t := by omega
  have g3 : s.take 128 = s := List.take_of_length_le (by omega)
  have g4 : (32 : Nat) ≤ 128 - t := by omega
  have g5 : t ≤ 128 := by omega
  (refine gives_iff ?_; refine go_func Try.f17 rfl rfl (by simp [Try.f17]) ?_; dsimp only [codeL, Try.f17, scL, sopsL, guardL, dstAt, loopKey])
  (repeat (first
    | (apply is_ok; (case hw => simp [hS, f1, f2, g1, g2, g3, g4, g5, hl, hP]); (case he => simp [hS, f1, f2, g1, g2, g3, g4, g5, hl, hP]; exact is_rfl))
    | (apply op_no; (case hw => simp [hS, f1, f2, g1, g2, g3, g4, g5, hl, hP]))
    | refine op_nil ?_ | refine next_normal ?_ | refine go_seq ?_ | refine go_region ?_ | refine go_skip ?_ | refine go_block ?_ | refine inb_normal ?_
    | (apply go_yes; (case hc => simp [hS, f1, f2, g1, g2, g3, g4, g5, hl, hP])) | (apply go_no; (case hc => simp [hS, f1, f2, g1, g2, g3, g4, g5, hl, hP]))
    | refine go_exit ?_ | refine next_exit ?_ | refine inb_here ?_ | refine inb_past (by decide) ?_ | refine go_ret ?_ | refine next_ret ?_ | refine inb_ret ?_))
  (apply ends_ok; (case h1 => simp; exact is_rfl); (case h2 => simp; exact is_rfl))
  simp

end Go.Abs
