/- Proved here: what functions of the program compute, over the evaluator. No condition but those that each theorem states. -/
import Derived.Test.YtpffmpllnpmkbaaG3
namespace Go.Abs
open Go.Proofs
set_option maxRecDepth 100000
set_option linter.unusedSimpArgs false
set_option linter.unusedVariables false

/-- The sector of an inode. -/
def secS (S : List (List UInt8)) (B : List Int) (n : Int) : List UInt8 × Int := if VolP S B then if 1 ≤ n ∧ n < 32 then readS S B (19 + n / 4) else ([], 2) else ([], 9)

theorem layV_no {S : List (List UInt8)} {B : List Int} (h : ¬ VolP S B) : layV S B = .tuple [.agg [.int .i64 0, .int .i64 0], .agg [.int .i64 0, .int .i64 0], .int .i64 9] := by unfold layV; rw [if_neg h]
theorem layV_yes {S : List (List UInt8)} {B : List Int} (h : VolP S B) : layV S B = .tuple [.agg [.int .i64 27, .int .i64 (S.length - swapW S - 27)], .agg [.int .i64 (S.length - swapW S), .int .i64 (swapW S)], .int .i64 0] := by unfold layV; rw [if_pos h]

theorem sector_eq (S : List (List UInt8)) (B : List Int) (hB : B.length ≤ maxLen) (n : Int) : bodyW DC 47 [drv S B, .int .i64 n] [] = some (.tuple [.str (secS S B n).1, .int .i64 (secS S B n).2], []) := by
  have hL := Layout_eq S B hB
  unfold secS
  by_cases hv : VolP S B
  case neg =>
    rw [layV_no hv] at hL
    rw [if_neg hv]
    (refine gives_iff ?_; refine go_func Try.f47 rfl rfl (by simp [Try.f47]) ?_; dsimp only [codeL, Try.f47, scL, sopsL, guardL, dstAt, loopKey])
    (repeat (first
    | (apply is_ok; (case hw => simp [hL]); (case he => simp [hL]; exact is_rfl))
    | (apply op_no; (case hw => simp [hL]))
    | refine op_nil ?_ | refine next_normal ?_ | refine go_seq ?_ | refine go_region ?_ | refine go_skip ?_ | refine go_block ?_ | refine inb_normal ?_
    | (apply go_yes; (case hc => simp [hL])) | (apply go_no; (case hc => simp [hL]))
    | refine go_exit ?_ | refine next_exit ?_ | refine inb_here ?_ | refine inb_past (by decide) ?_ | refine go_ret ?_ | refine next_ret ?_ | refine inb_ret ?_))
    (apply ends_ok; (case h1 => simp; exact is_rfl); (case h2 => simp; exact is_rfl))
    simp
  rw [layV_yes hv] at hL
  rw [if_pos hv]
  by_cases h1 : 1 ≤ n
  case neg =>
    have h1' : n < 1 := by omega
    rw [if_neg (fun h => h1 h.1)]
    (refine gives_iff ?_; refine go_func Try.f47 rfl rfl (by simp [Try.f47]) ?_; dsimp only [codeL, Try.f47, scL, sopsL, guardL, dstAt, loopKey])
    (repeat (first
    | (apply is_ok; (case hw => simp [hL, h1, h1']); (case he => simp [hL, h1, h1']; exact is_rfl))
    | (apply op_no; (case hw => simp [hL, h1, h1']))
    | refine op_nil ?_ | refine next_normal ?_ | refine go_seq ?_ | refine go_region ?_ | refine go_skip ?_ | refine go_block ?_ | refine inb_normal ?_
    | (apply go_yes; (case hc => simp [hL, h1, h1'])) | (apply go_no; (case hc => simp [hL, h1, h1']))
    | refine go_exit ?_ | refine next_exit ?_ | refine inb_here ?_ | refine inb_past (by decide) ?_ | refine go_ret ?_ | refine next_ret ?_ | refine inb_ret ?_))
    (apply ends_ok; (case h1 => simp; exact is_rfl); (case h2 => simp; exact is_rfl))
    simp
  have h1' : ¬ n < 1 := by omega
  by_cases h2 : n < 32
  case neg =>
    have h2' : 32 ≤ n := by omega
    rw [if_neg (fun h => h2 h.2)]
    (refine gives_iff ?_; refine go_func Try.f47 rfl rfl (by simp [Try.f47]) ?_; dsimp only [codeL, Try.f47, scL, sopsL, guardL, dstAt, loopKey])
    (repeat (first
    | (apply is_ok; (case hw => simp [hL, h1, h1', h2, h2']); (case he => simp [hL, h1, h1', h2, h2']; exact is_rfl))
    | (apply op_no; (case hw => simp [hL, h1, h1', h2, h2']))
    | refine op_nil ?_ | refine next_normal ?_ | refine go_seq ?_ | refine go_region ?_ | refine go_skip ?_ | refine go_block ?_ | refine inb_normal ?_
    | (apply go_yes; (case hc => simp [hL, h1, h1', h2, h2'])) | (apply go_no; (case hc => simp [hL, h1, h1', h2, h2']))
    | refine go_exit ?_ | refine next_exit ?_ | refine inb_here ?_ | refine inb_past (by decide) ?_ | refine go_ret ?_ | refine next_ret ?_ | refine inb_ret ?_))
    (apply ends_ok; (case h1 => simp; exact is_rfl); (case h2 => simp; exact is_rfl))
    simp
  have h2' : ¬ 32 ≤ n := by omega
  rw [if_pos ⟨h1, h2⟩]
  have hR := Read_eq S B hB (19 + n / 4)
  have f1 : n.tdiv 4 = n / 4 := Int.tdiv_eq_ediv_of_nonneg (by omega)
  have f2 : IntKind.i64.wrap (n / 4) = n / 4 := wrap_id (by omega) (by omega)
  have f3 : IntKind.i64.wrap (19 + n / 4) = 19 + n / 4 := wrap_id (by omega) (by omega)
  generalize n / 4 = d at hR f1 f2 f3
  generalize readS S B (19 + d) = r at hR
  (refine gives_iff ?_; refine go_func Try.f47 rfl rfl (by simp [Try.f47]) ?_; dsimp only [codeL, Try.f47, scL, sopsL, guardL, dstAt, loopKey])
  (repeat (first
    | (apply is_ok; (case hw => simp [hL, h1, h1', h2, h2', hR, f1, f2, f3]); (case he => simp [hL, h1, h1', h2, h2', hR, f1, f2, f3]; exact is_rfl))
    | (apply op_no; (case hw => simp [hL, h1, h1', h2, h2', hR, f1, f2, f3]))
    | refine op_nil ?_ | refine next_normal ?_ | refine go_seq ?_ | refine go_region ?_ | refine go_skip ?_ | refine go_block ?_ | refine inb_normal ?_
    | (apply go_yes; (case hc => simp [hL, h1, h1', h2, h2', hR, f1, f2, f3])) | (apply go_no; (case hc => simp [hL, h1, h1', h2, h2', hR, f1, f2, f3]))
    | refine go_exit ?_ | refine next_exit ?_ | refine inb_here ?_ | refine inb_past (by decide) ?_ | refine go_ret ?_ | refine next_ret ?_ | refine inb_ret ?_))
  (apply ends_ok; (case h1 => simp; exact is_rfl); (case h2 => simp; exact is_rfl))
  simp

theorem sectorR_eq (S : List (List UInt8)) (B : List Int) (hB : B.length ≤ maxLen) (n : Int) : ∃ p, bodyW DC 48 [drv S B, .int .i64 n] [] = some (.tuple [.str (secS S B n).1, .int .i64 p, .int .i64 (secS S B n).2], []) ∧ (VolP S B → 1 ≤ n → n < 32 → p = 19 + n / 4) := by
  have hL := LayoutR_eq S B hB
  unfold secS
  by_cases hv : VolP S B
  case neg =>
    rw [layV_no hv] at hL
    rw [if_neg hv]
    refine ⟨0, ?_, fun h => absurd h hv⟩
    (refine gives_iff ?_; refine go_func Try.f48 rfl rfl (by simp [Try.f48]) ?_; dsimp only [codeL, Try.f48, scL, sopsL, guardL, dstAt, loopKey])
    (repeat (first
    | (apply is_ok; (case hw => simp [hL]); (case he => simp [hL]; exact is_rfl))
    | (apply op_no; (case hw => simp [hL]))
    | refine op_nil ?_ | refine next_normal ?_ | refine go_seq ?_ | refine go_region ?_ | refine go_skip ?_ | refine go_block ?_ | refine inb_normal ?_
    | (apply go_yes; (case hc => simp [hL])) | (apply go_no; (case hc => simp [hL]))
    | refine go_exit ?_ | refine next_exit ?_ | refine inb_here ?_ | refine inb_past (by decide) ?_ | refine go_ret ?_ | refine next_ret ?_ | refine inb_ret ?_))
    (apply ends_ok; (case h1 => simp; exact is_rfl); (case h2 => simp; exact is_rfl))
    simp
  rw [layV_yes hv] at hL
  rw [if_pos hv]
  have hN : bodyW DC 73 [.int .i64 n] [] = some (.bool (decide (1 ≤ n ∧ n < 32)), []) := by
    by_cases h1 : 1 ≤ n
    · (refine gives_iff ?_; refine go_func Try.f73 rfl rfl (by simp [Try.f73]) ?_; dsimp only [codeL, Try.f73, scL, sopsL, guardL, dstAt, loopKey])
      (repeat (first
    | (apply is_ok; (case hw => simp [h1]); (case he => simp [h1]; exact is_rfl))
    | (apply op_no; (case hw => simp [h1]))
    | refine op_nil ?_ | refine next_normal ?_ | refine go_seq ?_ | refine go_region ?_ | refine go_skip ?_ | refine go_block ?_ | refine inb_normal ?_
    | (apply go_yes; (case hc => simp [h1])) | (apply go_no; (case hc => simp [h1]))
    | refine go_exit ?_ | refine next_exit ?_ | refine inb_here ?_ | refine inb_past (by decide) ?_ | refine go_ret ?_ | refine next_ret ?_ | refine inb_ret ?_))
      (apply ends_ok; (case h1 => simp; exact is_rfl); (case h2 => simp; exact is_rfl))
      simp [h1]
    · (refine gives_iff ?_; refine go_func Try.f73 rfl rfl (by simp [Try.f73]) ?_; dsimp only [codeL, Try.f73, scL, sopsL, guardL, dstAt, loopKey])
      (repeat (first
    | (apply is_ok; (case hw => simp [h1]); (case he => simp [h1]; exact is_rfl))
    | (apply op_no; (case hw => simp [h1]))
    | refine op_nil ?_ | refine next_normal ?_ | refine go_seq ?_ | refine go_region ?_ | refine go_skip ?_ | refine go_block ?_ | refine inb_normal ?_
    | (apply go_yes; (case hc => simp [h1])) | (apply go_no; (case hc => simp [h1]))
    | refine go_exit ?_ | refine next_exit ?_ | refine inb_here ?_ | refine inb_past (by decide) ?_ | refine go_ret ?_ | refine next_ret ?_ | refine inb_ret ?_))
      (apply ends_ok; (case h1 => simp; exact is_rfl); (case h2 => simp; exact is_rfl))
      simp [h1]
  by_cases h1 : 1 ≤ n ∧ n < 32
  case neg =>
    rw [if_neg h1]
    rw [decide_eq_false h1] at hN
    refine ⟨0, ?_, fun _ h2 h3 => absurd ⟨h2, h3⟩ h1⟩
    (refine gives_iff ?_; refine go_func Try.f48 rfl rfl (by simp [Try.f48]) ?_; dsimp only [codeL, Try.f48, scL, sopsL, guardL, dstAt, loopKey])
    (repeat (first
    | (apply is_ok; (case hw => simp [hL, hN]); (case he => simp [hL, hN]; exact is_rfl))
    | (apply op_no; (case hw => simp [hL, hN]))
    | refine op_nil ?_ | refine next_normal ?_ | refine go_seq ?_ | refine go_region ?_ | refine go_skip ?_ | refine go_block ?_ | refine inb_normal ?_
    | (apply go_yes; (case hc => simp [hL, hN])) | (apply go_no; (case hc => simp [hL, hN]))
    | refine go_exit ?_ | refine next_exit ?_ | refine inb_here ?_ | refine inb_past (by decide) ?_ | refine go_ret ?_ | refine next_ret ?_ | refine inb_ret ?_))
    (apply ends_ok; (case h1 => simp; exact is_rfl); (case h2 => simp; exact is_rfl))
    simp
  rw [if_pos h1]
  rw [decide_eq_true h1] at hN
  have hR := ReadR_eq S B hB (19 + n / 4)
  have f1 : n.tdiv 4 = n / 4 := Int.tdiv_eq_ediv_of_nonneg (by omega)
  have f2 : IntKind.i64.wrap (n / 4) = n / 4 := wrap_id (by omega) (by omega)
  have f3 : IntKind.i64.wrap (19 + n / 4) = 19 + n / 4 := wrap_id (by omega) (by omega)
  refine ⟨19 + n / 4, ?_, fun _ _ _ => rfl⟩
  generalize n / 4 = d at hR f1 f2 f3
  generalize readS S B (19 + d) = r at hR
  (refine gives_iff ?_; refine go_func Try.f48 rfl rfl (by simp [Try.f48]) ?_; dsimp only [codeL, Try.f48, scL, sopsL, guardL, dstAt, loopKey])
  (repeat (first
    | (apply is_ok; (case hw => simp [hL, hN, hR, f1, f2, f3]); (case he => simp [hL, hN, hR, f1, f2, f3]; exact is_rfl))
    | (apply op_no; (case hw => simp [hL, hN, hR, f1, f2, f3]))
    | refine op_nil ?_ | refine next_normal ?_ | refine go_seq ?_ | refine go_region ?_ | refine go_skip ?_ | refine go_block ?_ | refine inb_normal ?_
    | (apply go_yes; (case hc => simp [hL, hN, hR, f1, f2, f3])) | (apply go_no; (case hc => simp [hL, hN, hR, f1, f2, f3]))
    | refine go_exit ?_ | refine next_exit ?_ | refine inb_here ?_ | refine inb_past (by decide) ?_ | refine go_ret ?_ | refine next_ret ?_ | refine inb_ret ?_))
  (apply ends_ok; (case h1 => simp; exact is_rfl); (case h2 => simp; exact is_rfl))
  simp

theorem sec_ok {S : List (List UInt8)} {B : List Int} {n : Int} (h : (secS S B n).2 = 0) : VolP S B ∧ 1 ≤ n ∧ n < 32 ∧ (secS S B n).1.length = 128 := by
  unfold secS at h ⊢
  by_cases hv : VolP S B
  · rw [if_pos hv] at h ⊢
    by_cases h1 : 1 ≤ n ∧ n < 32
    · rw [if_pos h1] at h ⊢
      have hb := vol_bounds hv
      unfold readS at h ⊢
      rw [if_pos (by omega)] at h ⊢
      by_cases hi : 19 + n / 4 ∈ B
      · rw [if_pos hi] at h; exact absurd h (by simp)
      · rw [if_neg hi]
        have hlt : (19 + n / 4).toNat < S.length := by omega
        exact ⟨hv, h1.1, h1.2, by rw [getD_at hlt]; exact hv.1.2.2.1 _ (List.getElem_mem hlt)⟩
    · rw [if_neg h1] at h; exact absurd h (by simp)
  · rw [if_neg hv] at h; exact absurd h (by simp)

/-- The text of an inode. -/
def inoS (S : List (List UInt8)) (B : List Int) (n : Int) : List UInt8 := ((secS S B n).1.drop (n.toNat % 4 * 32)).take 32
def getV (S : List (List UInt8)) (B : List Int) (n : Int) : V := if (secS S B n).2 = 0 then parseV (inoS S B n) else ino0
def getE (S : List (List UInt8)) (B : List Int) (n : Int) : Int := if (secS S B n).2 = 0 then parseE (inoS S B n) else (secS S B n).2

theorem Get38_eq (S : List (List UInt8)) (B : List Int) (hB : B.length ≤ maxLen) (n : Int) : bodyW DC 17 [drv S B, .int .i64 n] [] = some (.tuple [getV S B n, .int .i64 (getE S B n)], []) := by
  have hS := sector_eq S B hB n
  unfold getV getE
  by_cases he : (secS S B n).2 = 0
  case neg =>
    rw [if_neg he, if_neg he]
    generalize secS S B n = q at hS he
    (refine gives_iff ?_; refine go_func Try.f17 rfl rfl (by simp [Try.f17]) ?_; dsimp only [codeL, Try.f17, scL, sopsL, guardL, dstAt, loopKey])
    (repeat (first
    | (apply is_ok; (case hw => simp [hS, he]); (case he => simp [hS, he]; exact is_rfl))
    | (apply op_no; (case hw => simp [hS, he]))
    | refine op_nil ?_ | refine next_normal ?_ | refine go_seq ?_ | refine go_region ?_ | refine go_skip ?_ | refine go_block ?_ | refine inb_normal ?_
    | (apply go_yes; (case hc => simp [hS, he])) | (apply go_no; (case hc => simp [hS, he]))
    | refine go_exit ?_ | refine next_exit ?_ | refine inb_here ?_ | refine inb_past (by decide) ?_ | refine go_ret ?_ | refine next_ret ?_ | refine inb_ret ?_))
    (apply ends_ok; (case h1 => simp; exact is_rfl); (case h2 => simp; exact is_rfl))
    simp
  obtain ⟨hv, h1, h2, hl⟩ := sec_ok he
  rw [if_pos he, if_pos he]
  have hP := Parse_eq (inoS S B n)
  obtain ⟨k, l, z, a, b, c, d, e, f, g, h, hsh, _⟩ := parseV_shape (inoS S B n)
  rw [hsh] at hP ⊢
  generalize parseE (inoS S B n) = ee at hP ⊢
  unfold inoS at hP
  rw [he] at hS
  generalize (secS S B n).1 = s at hS hl hP
  obtain ⟨m, rfl⟩ : ∃ m : Nat, n = m := ⟨n.toNat, by omega⟩
  have f1 : (m : Int).tmod 4 = ((m % 4 : Nat) : Int) := by rw [Int.tmod_eq_emod_of_nonneg (by omega)]; rfl
  have hr : m % 4 < 4 := Nat.mod_lt _ (by omega)
  rw [Int.toNat_natCast] at hP
  generalize m % 4 = r at f1 hr hP
  have f2 : IntKind.i64.wrap ((r : Int) * 32) = ((r * 32 : Nat) : Int) := by rw [wrap_id (by omega) (by omega)]; omega
  generalize ha : r * 32 = t at f2 hP
  have g1 : t ≤ s.length := by omega
  have g2 : 32 ≤ s.length - t := by omega
  have g3 : s.take 128 = s := List.take_of_length_le (by omega)
  have g4 : (32 : Nat) ≤ 128 - t := by omega
  have g5 : t ≤ 128 := by omega
  (refine gives_iff ?_; refine go_func Try.f17 rfl rfl (by simp [Try.f17]) ?_; dsimp only [codeL, Try.f17, scL, sopsL, guardL, dstAt, loopKey])
  (repeat (first
    | (apply is_ok; (case hw => simp [hS, f1, f2, g1, g2, g3, g4, g5, hl, hP]); (case he => simp [hS, f1, f2, g1, g2, g3, g4, g5, hl, hP]; exact is_rfl))
    | (apply op_no; (case hw => simp [hS, f1, f2, g1, g2, g3, g4, g5, hl, hP]))
    | refine op_nil ?_ | refine next_normal ?_ | refine go_seq ?_ | refine go_region ?_ | refine go_skip ?_ | refine go_block ?_ | refine inb_normal ?_
    | (apply go_yes; (case hc => simp [hS, f1, f2, g1, g2, g3, g4, g5, hl, hP])) | (apply go_no; (case hc => simp [hS, f1, f2, g1, g2, g3, g4, g5, hl, hP]))
    | refine go_exit ?_ | refine next_exit ?_ | refine inb_here ?_ | refine inb_past (by decide) ?_ | refine go_ret ?_ | refine next_ret ?_ | refine inb_ret ?_))
  (apply ends_ok; (case h1 => simp; exact is_rfl); (case h2 => simp; exact is_rfl))
  simp

end Go.Abs

namespace Go.Abs
open Go.Proofs
set_option maxRecDepth 100000
set_option linter.unusedSimpArgs false

theorem putS_length {S : List (List UInt8)} {w : Int × List UInt8} : (putS S w).length = S.length := by simp [putS]

end Go.Abs

namespace Go.Abs
open Go.Proofs
set_option maxRecDepth 100000
set_option linter.unusedSimpArgs false

/-- The places up to n at which two lists differ. -/
def diffL (S T : List (List UInt8)) (n : Nat) : List Int := ((List.range n).filter fun i => !(S[i]? == T[i]?)).map Int.ofNat
theorem diffL_succ (S T : List (List UInt8)) (n : Nat) : diffL S T (n + 1) = if S[n]? = T[n]? then diffL S T n else diffL S T n ++ [(n : Int)] := by
  unfold diffL
  rw [List.range_succ, List.filter_append, List.map_append]
  by_cases h : S[n]? = T[n]? <;> simp [h]
theorem diffL_length (S T : List (List UInt8)) (n : Nat) : (diffL S T n).length ≤ n := by
  unfold diffL
  rw [List.length_map]
  exact Nat.le_trans (List.length_filter_le _ _) (by simp)
abbrev diffA (S T : List (List UInt8)) : List Int := diffL S T (max S.length T.length)
theorem diffL_nil {S T : List (List UInt8)} {n : Nat} : diffL S T n = [] ↔ ∀ i, i < n → S[i]? = T[i]? := by
  unfold diffL
  rw [List.map_eq_nil_iff, List.filter_eq_nil_iff]
  simp
theorem diffA_nil {S T : List (List UInt8)} : diffA S T = [] ↔ S = T := by
  rw [diffL_nil]
  constructor
  · intro h
    apply List.ext_getElem?
    intro i
    by_cases hi : i < max S.length T.length
    · exact h i hi
    · rw [List.getElem?_eq_none (by omega), List.getElem?_eq_none (by omega)]
  · rintro rfl _ _; rfl

theorem DiffR_eq (S T : List (List UInt8)) (B C : List Int) (hS : S.length ≤ 1000000) (hT : T.length ≤ 1000000) :
    bodyW DC 67 [drv S B, drv T C] [] = some (.own 0 (diffA S T).length 0 (diffA S T).length, [.dat true 1 (ints (diffA S T))]) := by
  (refine gives_iff ?_; refine go_func Try.f67 rfl rfl (by simp [Try.f67]) ?_; dsimp only [codeL, Try.f67, scL, sopsL, guardL, dstAt, loopKey])
  (repeat (first
    | (apply is_ok; (case hw => simp); (case he => simp; exact is_rfl))
    | (apply op_no; (case hw => simp))
    | refine op_nil ?_ | refine next_normal ?_ | refine go_seq ?_ | refine go_region ?_ | refine go_skip ?_ | refine go_block ?_ | refine inb_normal ?_
    | (apply go_yes; (case hc => simp)) | (apply go_no; (case hc => simp))
    | refine go_exit ?_ | refine next_exit ?_ | refine inb_here ?_ | refine inb_past (by decide) ?_ | refine go_ret ?_ | refine next_ret ?_ | refine inb_ret ?_))
  refine go_count (max S.length T.length) (fun i => [(2, .ptr 0 1 0 0), (3, .ptr 1 1 0 0), (5, .own 2 (diffL S T i).length 0 (diffL S T i).length), (6, .int .i64 i)])
    (fun i => [.box (drv S B), .box (drv T C), .dat true 1 (ints (diffL S T i))]) (fun _ => True) (by simp [diffL]) trivial fun i hi _ => ?_
  have hw : IntKind.i64.wrap ((i : Int) + 1) = (i : Int) + 1 := wrap_id (by omega) (by omega)
  have hL := diffL_length S T i
  have r1 : ((diffL S T i).length + 1) * 8 ≤ room := by unfold room; omega
  have r2 : (diffL S T i).length + 1 ≤ room := by unfold room; omega
  have hd := diffL_succ S T i
  by_cases h1 : i < S.length
  · have hlt : i < max S.length T.length := by omega
    have e1 : ¬ ((S.length : Int) ≤ i) := by omega
    have e1' : ¬ (S.length ≤ i) := by omega
    by_cases h2 : i < T.length
    · have e2 : ¬ ((T.length : Int) ≤ i) := by omega
      have e2' : ¬ (T.length ≤ i) := by omega
      by_cases h3 : S[i] = T[i]
      · rw [if_pos (by simp [h1, h2, h3])] at hd
        (repeat (first
    | (apply is_ok; (case hw => simp [h1, e1, e1', h2, e2, e2', h3]); (case he => simp [h1, e1, e1', h2, e2, e2', h3]; exact is_rfl))
    | (apply op_no; (case hw => simp [h1, e1, e1', h2, e2, e2', h3]))
    | refine op_nil ?_ | refine next_normal ?_ | refine go_seq ?_ | refine go_region ?_ | refine go_skip ?_ | refine go_block ?_ | refine inb_normal ?_
    | (apply go_yes; (case hc => simp [h1, e1, e1', h2, e2, e2', h3])) | (apply go_no; (case hc => simp [h1, e1, e1', h2, e2, e2', h3]))
    | refine go_exit ?_ | refine next_exit ?_ | refine inb_here ?_ | refine inb_past (by decide) ?_ | refine go_ret ?_ | refine next_ret ?_ | refine inb_ret ?_))
        exact ⟨hlt, by simp [hw, hd], trivial⟩
      · rw [if_neg (by simp [h1, h2, h3])] at hd
        (repeat (first
    | (apply is_ok; (case hw => simp [h1, e1, e1', h2, e2, e2', h3, r1, r2]); (case he => simp [h1, e1, e1', h2, e2, e2', h3, r1, r2]; exact is_rfl))
    | (apply op_no; (case hw => simp [h1, e1, e1', h2, e2, e2', h3, r1, r2]))
    | refine op_nil ?_ | refine next_normal ?_ | refine go_seq ?_ | refine go_region ?_ | refine go_skip ?_ | refine go_block ?_ | refine inb_normal ?_
    | (apply go_yes; (case hc => simp [h1, e1, e1', h2, e2, e2', h3, r1, r2])) | (apply go_no; (case hc => simp [h1, e1, e1', h2, e2, e2', h3, r1, r2]))
    | refine go_exit ?_ | refine next_exit ?_ | refine inb_here ?_ | refine inb_past (by decide) ?_ | refine go_ret ?_ | refine next_ret ?_ | refine inb_ret ?_))
        exact ⟨hlt, by simp [hw, hd], trivial⟩
    · have e2 : ((T.length : Int) ≤ i) := by omega
      have e2' : (T.length ≤ i) := by omega
      rw [if_neg (by simp [h1, h2])] at hd
      (repeat (first
    | (apply is_ok; (case hw => simp [h1, e1, e1', h2, e2, e2', r1, r2]); (case he => simp [h1, e1, e1', h2, e2, e2', r1, r2]; exact is_rfl))
    | (apply op_no; (case hw => simp [h1, e1, e1', h2, e2, e2', r1, r2]))
    | refine op_nil ?_ | refine next_normal ?_ | refine go_seq ?_ | refine go_region ?_ | refine go_skip ?_ | refine go_block ?_ | refine inb_normal ?_
    | (apply go_yes; (case hc => simp [h1, e1, e1', h2, e2, e2', r1, r2])) | (apply go_no; (case hc => simp [h1, e1, e1', h2, e2, e2', r1, r2]))
    | refine go_exit ?_ | refine next_exit ?_ | refine inb_here ?_ | refine inb_past (by decide) ?_ | refine go_ret ?_ | refine next_ret ?_ | refine inb_ret ?_))
      exact ⟨hlt, by simp [hw, hd], trivial⟩
  · have e1 : ((S.length : Int) ≤ i) := by omega
    have e1' : (S.length ≤ i) := by omega
    by_cases h2 : i < T.length
    · have hlt : i < max S.length T.length := by omega
      rw [if_neg (by simp [h1, h2])] at hd
      (repeat (first
    | (apply is_ok; (case hw => simp [h1, e1, e1', h2, r1, r2]); (case he => simp [h1, e1, e1', h2, r1, r2]; exact is_rfl))
    | (apply op_no; (case hw => simp [h1, e1, e1', h2, r1, r2]))
    | refine op_nil ?_ | refine next_normal ?_ | refine go_seq ?_ | refine go_region ?_ | refine go_skip ?_ | refine go_block ?_ | refine inb_normal ?_
    | (apply go_yes; (case hc => simp [h1, e1, e1', h2, r1, r2])) | (apply go_no; (case hc => simp [h1, e1, e1', h2, r1, r2]))
    | refine go_exit ?_ | refine next_exit ?_ | refine inb_here ?_ | refine inb_past (by decide) ?_ | refine go_ret ?_ | refine next_ret ?_ | refine inb_ret ?_))
      exact ⟨hlt, by simp [hw, hd], trivial⟩
    · (repeat (first
    | (apply is_ok; (case hw => simp [h1, e1, h2]); (case he => simp [h1, e1, h2]; exact is_rfl))
    | (apply op_no; (case hw => simp [h1, e1, h2]))
    | refine op_nil ?_ | refine next_normal ?_ | refine go_seq ?_ | refine go_region ?_ | refine go_skip ?_ | refine go_block ?_ | refine inb_normal ?_
    | (apply go_yes; (case hc => simp [h1, e1, h2])) | (apply go_no; (case hc => simp [h1, e1, h2]))
    | refine go_exit ?_ | refine next_exit ?_ | refine inb_here ?_ | refine inb_past (by decide) ?_ | refine go_ret ?_ | refine next_ret ?_ | refine inb_ret ?_))
      (apply ends_ok; (case h1 => simp; exact is_rfl); (case h2 => simp; exact is_rfl))
      have : i = max S.length T.length := by omega
      simp [this]

end Go.Abs

namespace Go.Abs
open Go.Proofs
set_option maxRecDepth 100000
set_option linter.unusedSimpArgs false

def SmallP (l : List (Int × List UInt8)) : Prop := l.length ≤ 60 ∧ ∀ w ∈ l, w.2.length ≤ 200
instance (l : List (Int × List UInt8)) : Decidable (SmallP l) := by unfold SmallP; infer_instance

theorem applyS_length (B : List Int) (fuse : Int) : ∀ (l : List (Int × List UInt8)) (S : List (List UInt8)) (i : Nat), (applyS B fuse S i l).1.length = S.length
  | [], S, i => rfl
  | w :: l, S, i => by
    rw [applyS]
    split
    · rfl
    · split
      · rw [applyS_length B fuse l, putS_length]
      · rfl

end Go.Abs

namespace Go.Abs
open Go.Proofs
set_option maxRecDepth 100000
set_option linter.unusedSimpArgs false

theorem wr_cells {n : Nat} {cs : List V} (h : HasT Try.prog n 38 cs) : ∃ w : Int × List UInt8, V.agg cs = wrV w ∧ (-9223372036854775808 ≤ w.1 ∧ w.1 ≤ 9223372036854775807) := by
  obtain ⟨m, rfl, h1, h2⟩ := hasT_struct Try.underlying38 h
  have hl : cs.length = 2 := h1.trans (by kernel_rfl)
  match cs, hl with
  | [a, b], _ =>
    have f0 := h2 0 _ rfl
    have f1 := h2 1 _ rfl
    obtain ⟨k, e1, hk⟩ := hasT_int Try.underlying3 f0
    obtain ⟨s, e2, _⟩ := hasT_str Try.underlying9 f1
    have e1' : [a] = [V.int .i64 k] := e1
    have e2' : [b] = [V.str s] := e2
    cases e1'
    cases e2'
    exact ⟨(k, s), rfl, wf_i64 hk⟩
theorem writes_of {x : V} (h : ArgT Try.prog 57 x) : ∃ l : List (Int × List UInt8), x = .sl (l.map wrV) ∧ l.length ≤ maxLen := by
  obtain ⟨n, h1, h2⟩ := h
  rw [show aggT Try.prog 57 = some false by kernel_rfl] at h2
  rw [cells_one (Option.some.inj h2).symm] at h1
  obtain ⟨m, es, rfl, h3, h4, h5⟩ := hasT_slice Try.underlying57 (cells_ne (n := 2) (by kernel_rfl) (by decide)) h1
  cases h3
  obtain ⟨l, rfl, _⟩ := map_of (p := fun _ => True) (f := wrV) fun x hx => by
    obtain ⟨h6, h7⟩ := h5 x hx
    rw [show aggT Try.prog 38 = some true by kernel_rfl] at h6
    obtain ⟨cs, rfl⟩ := cells_some (Option.some.inj h6).symm
    obtain ⟨w, h8, _⟩ := wr_cells h7
    exact ⟨w, h8, trivial⟩
  exact ⟨l, rfl, by simpa using h4⟩

end Go.Abs

namespace Go.Abs
open Go.Proofs
set_option maxRecDepth 100000
set_option linter.unusedSimpArgs false
set_option linter.unusedVariables false

theorem Get38R_eq (S : List (List UInt8)) (B : List Int) (hB : B.length ≤ maxLen) (n : Int) : bodyW DC 18 [drv S B, .int .i64 n] [] = some (.tuple [getV S B n, .int .i64 (getE S B n)], []) := by
  obtain ⟨p, hS, hp⟩ := sectorR_eq S B hB n
  unfold getV getE
  by_cases he : (secS S B n).2 = 0
  case neg =>
    rw [if_neg he, if_neg he]
    clear hp
    generalize secS S B n = q at hS he
    (refine gives_iff ?_; refine go_func Try.f18 rfl rfl (by simp [Try.f18]) ?_; dsimp only [codeL, Try.f18, scL, sopsL, guardL, dstAt, loopKey])
    (repeat (first
    | (apply is_ok; (case hw => simp [hS, he]); (case he => simp [hS, he]; exact is_rfl))
    | (apply op_no; (case hw => simp [hS, he]))
    | refine op_nil ?_ | refine next_normal ?_ | refine go_seq ?_ | refine go_region ?_ | refine go_skip ?_ | refine go_block ?_ | refine inb_normal ?_
    | (apply go_yes; (case hc => simp [hS, he])) | (apply go_no; (case hc => simp [hS, he]))
    | refine go_exit ?_ | refine next_exit ?_ | refine inb_here ?_ | refine inb_past (by decide) ?_ | refine go_ret ?_ | refine next_ret ?_ | refine inb_ret ?_))
    (apply ends_ok; (case h1 => simp; exact is_rfl); (case h2 => simp; exact is_rfl))
    simp
  obtain ⟨hv, h1, h2, hl⟩ := sec_ok he
  rw [if_pos he, if_pos he]
  have hP := ParseR_eq (inoS S B n)
  obtain ⟨k, l, z, a, b, c, d, e, f, g, h, hsh, _⟩ := parseV_shape (inoS S B n)
  rw [hsh] at hP ⊢
  generalize parseE (inoS S B n) = ee at hP ⊢
  unfold inoS at hP
  rw [he] at hS
  generalize (secS S B n).1 = s at hS hl hP
  clear hp
  obtain ⟨m, rfl⟩ : ∃ m : Nat, n = m := ⟨n.toNat, by omega⟩
  have f1 : (m : Int).tmod 4 = ((m % 4 : Nat) : Int) := by rw [Int.tmod_eq_emod_of_nonneg (by omega)]; rfl
  have hr : m % 4 < 4 := Nat.mod_lt _ (by omega)
  rw [Int.toNat_natCast] at hP
  generalize m % 4 = r at f1 hr hP
  have f2 : IntKind.i64.wrap ((r : Int) * 32) = ((r * 32 : Nat) : Int) := by rw [wrap_id (by omega) (by omega)]; omega
  generalize ha : r * 32 = t at f2 hP
  have f3 : IntKind.i64.wrap ((t : Int) + 32) = ((t + 32 : Nat) : Int) := wrap_id (by omega) (by omega)
  have g6 : (s.take (t + 32)).drop t = (s.drop t).take 32 := by rw [List.drop_take]; congr 1; omega
  rw [← g6] at hP
  generalize hu : t + 32 = u at f3 hP
  have g1 : t ≤ u := by omega
  have g2 : u ≤ 128 := by omega
  have g3 : u ≤ s.length := by omega
  (refine gives_iff ?_; refine go_func Try.f18 rfl rfl (by simp [Try.f18]) ?_; dsimp only [codeL, Try.f18, scL, sopsL, guardL, dstAt, loopKey])
  (repeat (first
    | (apply is_ok; (case hw => simp [hS, f1, f2, f3, g1, g2, g3, hl, hP]); (case he => simp [hS, f1, f2, f3, g1, g2, g3, hl, hP]; exact is_rfl))
    | (apply op_no; (case hw => simp [hS, f1, f2, f3, g1, g2, g3, hl, hP]))
    | refine op_nil ?_ | refine next_normal ?_ | refine go_seq ?_ | refine go_region ?_ | refine go_skip ?_ | refine go_block ?_ | refine inb_normal ?_
    | (apply go_yes; (case hc => simp [hS, f1, f2, f3, g1, g2, g3, hl, hP])) | (apply go_no; (case hc => simp [hS, f1, f2, f3, g1, g2, g3, hl, hP]))
    | refine go_exit ?_ | refine next_exit ?_ | refine inb_here ?_ | refine inb_past (by decide) ?_ | refine go_ret ?_ | refine next_ret ?_ | refine inb_ret ?_))
  (apply ends_ok; (case h1 => simp; exact is_rfl); (case h2 => simp; exact is_rfl))
  simp

theorem bytesI_length {k l z : Int} {L : List Int} (hL : L.length = 8) : (bytesI k l z L).length = 32 := by
  match L, hL with
  | [a, b, c, d, e, f, g, h], _ => rfl

/-- What Put returns. -/
def putW (S : List (List UInt8)) (B : List Int) (n k l z : Int) (L : List Int) : (Int × List UInt8) × Int :=
  if (secS S B n).2 = 0 then if validI k l z L then ((19 + n / 4, (secS S B n).1.take (n.toNat % 4 * 32) ++ (bytesI k l z L ++ (secS S B n).1.drop (n.toNat % 4 * 32 + 32))), 0) else ((0, []), 1) else ((0, []), (secS S B n).2)

theorem Put38_eq (S : List (List UInt8)) (B : List Int) (hB : B.length ≤ maxLen) (n k l z : Int) (L : List Int) (hL : L.length = 8) (hX : In64 (k :: l :: z :: L)) : bodyW DC 19 [drv S B, .int .i64 n, inoV k l z L] [] = some (.tuple [wrV (putW S B n k l z L).1, .int .i64 (putW S B n k l z L).2], []) := by
  have hS := sector_eq S B hB n
  have hV := Valid_eq k l z L hL (fun x hx => hX x (by simp [hx]))
  have hBy := Bytes_eq k l z L hL hX
  have hbl := bytesI_length (k := k) (l := l) (z := z) hL
  unfold putW
  by_cases he : (secS S B n).2 = 0
  case neg =>
    rw [if_neg he]
    generalize secS S B n = q at hS he
    (refine gives_iff ?_; refine go_func Try.f19 rfl rfl (by simp [Try.f19]) ?_; dsimp only [codeL, Try.f19, scL, sopsL, guardL, dstAt, loopKey])
    (repeat (first
    | (apply is_ok; (case hw => simp [hL, hS, he]); (case he => simp [hL, hS, he]; exact is_rfl))
    | (apply op_no; (case hw => simp [hL, hS, he]))
    | refine op_nil ?_ | refine next_normal ?_ | refine go_seq ?_ | refine go_region ?_ | refine go_skip ?_ | refine go_block ?_ | refine inb_normal ?_
    | (apply go_yes; (case hc => simp [hL, hS, he])) | (apply go_no; (case hc => simp [hL, hS, he]))
    | refine go_exit ?_ | refine next_exit ?_ | refine inb_here ?_ | refine inb_past (by decide) ?_ | refine go_ret ?_ | refine next_ret ?_ | refine inb_ret ?_))
    (apply ends_ok; (case h1 => simp; exact is_rfl); (case h2 => simp; exact is_rfl))
    simp
  rw [if_pos he]
  obtain ⟨hv, h1, h2, hl⟩ := sec_ok he
  rw [he] at hS
  generalize (secS S B n).1 = s at hS hl
  by_cases hk : validI k l z L
  case neg =>
    rw [if_neg hk]
    (refine gives_iff ?_; refine go_func Try.f19 rfl rfl (by simp [Try.f19]) ?_; dsimp only [codeL, Try.f19, scL, sopsL, guardL, dstAt, loopKey])
    (repeat (first
    | (apply is_ok; (case hw => simp [hL, hS, hV, hk]); (case he => simp [hL, hS, hV, hk]; exact is_rfl))
    | (apply op_no; (case hw => simp [hL, hS, hV, hk]))
    | refine op_nil ?_ | refine next_normal ?_ | refine go_seq ?_ | refine go_region ?_ | refine go_skip ?_ | refine go_block ?_ | refine inb_normal ?_
    | (apply go_yes; (case hc => simp [hL, hS, hV, hk])) | (apply go_no; (case hc => simp [hL, hS, hV, hk]))
    | refine go_exit ?_ | refine next_exit ?_ | refine inb_here ?_ | refine inb_past (by decide) ?_ | refine go_ret ?_ | refine next_ret ?_ | refine inb_ret ?_))
    (apply ends_ok; (case h1 => simp; exact is_rfl); (case h2 => simp; exact is_rfl))
    simp
  rw [if_pos hk]
  rw [decide_eq_true hk] at hV
  generalize bytesI k l z L = bs at hBy hbl
  obtain ⟨m, rfl⟩ : ∃ m : Nat, n = m := ⟨n.toNat, by omega⟩
  have f1 : (m : Int).tmod 4 = ((m % 4 : Nat) : Int) := by rw [Int.tmod_eq_emod_of_nonneg (by omega)]; rfl
  have d1 : (m : Int).tdiv 4 = (m : Int) / 4 := Int.tdiv_eq_ediv_of_nonneg (by omega)
  have d2 : IntKind.i64.wrap ((m : Int) / 4) = (m : Int) / 4 := wrap_id (by omega) (by omega)
  have d3 : IntKind.i64.wrap (19 + (m : Int) / 4) = 19 + (m : Int) / 4 := wrap_id (by omega) (by omega)
  generalize (m : Int) / 4 = q at d1 d2 d3
  have hr : m % 4 < 4 := Nat.mod_lt _ (by omega)
  rw [Int.toNat_natCast]
  generalize m % 4 = r at f1 hr
  have f2 : IntKind.i64.wrap ((r : Int) * 32) = ((r * 32 : Nat) : Int) := by rw [wrap_id (by omega) (by omega)]; omega
  generalize ha : r * 32 = t at f2
  have f3 : IntKind.i64.wrap ((t : Int) + 32) = ((t + 32 : Nat) : Int) := wrap_id (by omega) (by omega)
  generalize hu : t + 32 = u at f3
  have g1 : t ≤ 128 := by omega
  have g2 : u ≤ 128 := by omega
  have g3 : s.take 128 = s := List.take_of_length_le (by omega)
  have g4 : min t 128 = t := by omega
  have r1 : t + 32 ≤ room := by unfold room; omega
  have r2 : t + 32 + (128 - u) ≤ room := by unfold room; omega
  have r3 : u ≤ room := by unfold room; omega
  have r4 : u + (128 - u) ≤ room := by unfold room; omega
  (refine gives_iff ?_; refine go_func Try.f19 rfl rfl (by simp [Try.f19]) ?_; dsimp only [codeL, Try.f19, scL, sopsL, guardL, dstAt, loopKey])
  (repeat (first
    | (apply is_ok; (case hw => simp [hL, hS, hV, hBy, hbl, hl, f1, f2, f3, d1, d2, d3, g1, g2, g3, g4, r1, r2, hu, r3, r4]); (case he => simp [hL, hS, hV, hBy, hbl, hl, f1, f2, f3, d1, d2, d3, g1, g2, g3, g4, r1, r2, hu, r3, r4]; exact is_rfl))
    | (apply op_no; (case hw => simp [hL, hS, hV, hBy, hbl, hl, f1, f2, f3, d1, d2, d3, g1, g2, g3, g4, r1, r2, hu, r3, r4]))
    | refine op_nil ?_ | refine next_normal ?_ | refine go_seq ?_ | refine go_region ?_ | refine go_skip ?_ | refine go_block ?_ | refine inb_normal ?_
    | (apply go_yes; (case hc => simp [hL, hS, hV, hBy, hbl, hl, f1, f2, f3, d1, d2, d3, g1, g2, g3, g4, r1, r2, hu, r3, r4])) | (apply go_no; (case hc => simp [hL, hS, hV, hBy, hbl, hl, f1, f2, f3, d1, d2, d3, g1, g2, g3, g4, r1, r2, hu, r3, r4]))
    | refine go_exit ?_ | refine next_exit ?_ | refine inb_here ?_ | refine inb_past (by decide) ?_ | refine go_ret ?_ | refine next_ret ?_ | refine inb_ret ?_))
  (apply ends_ok; (case h1 => simp; exact is_rfl); (case h2 => simp; exact is_rfl))
  simp
end Go.Abs

namespace Go.Abs
open Go.Proofs
set_option maxRecDepth 100000
set_option linter.unusedSimpArgs false
set_option linter.unusedVariables false

theorem Put38R_eq (S : List (List UInt8)) (B : List Int) (hB : B.length ≤ maxLen) (n k l z : Int) (L : List Int) (hL : L.length = 8) (hX : In64 (k :: l :: z :: L)) : bodyW DC 20 [drv S B, .int .i64 n, inoV k l z L] [] = some (.tuple [wrV (putW S B n k l z L).1, .int .i64 (putW S B n k l z L).2], []) := by
  obtain ⟨p, hS, hp⟩ := sectorR_eq S B hB n
  have hV := ValidR_eq k l z L hL (fun x hx => hX x (by simp [hx]))
  have hBy := BytesR_eq k l z L hL hX
  have hbl := bytesI_length (k := k) (l := l) (z := z) hL
  unfold putW
  by_cases he : (secS S B n).2 = 0
  case neg =>
    rw [if_neg he]
    clear hp
    generalize secS S B n = q at hS he
    (refine gives_iff ?_; refine go_func Try.f20 rfl rfl (by simp [Try.f20]) ?_; dsimp only [codeL, Try.f20, scL, sopsL, guardL, dstAt, loopKey])
    (repeat (first
    | (apply is_ok; (case hw => simp [hL, hS, he]); (case he => simp [hL, hS, he]; exact is_rfl))
    | (apply op_no; (case hw => simp [hL, hS, he]))
    | refine op_nil ?_ | refine next_normal ?_ | refine go_seq ?_ | refine go_region ?_ | refine go_skip ?_ | refine go_block ?_ | refine inb_normal ?_
    | (apply go_yes; (case hc => simp [hL, hS, he])) | (apply go_no; (case hc => simp [hL, hS, he]))
    | refine go_exit ?_ | refine next_exit ?_ | refine inb_here ?_ | refine inb_past (by decide) ?_ | refine go_ret ?_ | refine next_ret ?_ | refine inb_ret ?_))
    (apply ends_ok; (case h1 => simp; exact is_rfl); (case h2 => simp; exact is_rfl))
    simp
  rw [if_pos he]
  obtain ⟨hv, h1, h2, hl⟩ := sec_ok he
  rw [he] at hS
  have hp' := hp hv h1 h2
  subst hp'
  clear hp
  generalize (secS S B n).1 = s at hS hl
  by_cases hk : validI k l z L
  case neg =>
    rw [if_neg hk]
    (refine gives_iff ?_; refine go_func Try.f20 rfl rfl (by simp [Try.f20]) ?_; dsimp only [codeL, Try.f20, scL, sopsL, guardL, dstAt, loopKey])
    (repeat (first
    | (apply is_ok; (case hw => simp [hL, hS, hV, hk]); (case he => simp [hL, hS, hV, hk]; exact is_rfl))
    | (apply op_no; (case hw => simp [hL, hS, hV, hk]))
    | refine op_nil ?_ | refine next_normal ?_ | refine go_seq ?_ | refine go_region ?_ | refine go_skip ?_ | refine go_block ?_ | refine inb_normal ?_
    | (apply go_yes; (case hc => simp [hL, hS, hV, hk])) | (apply go_no; (case hc => simp [hL, hS, hV, hk]))
    | refine go_exit ?_ | refine next_exit ?_ | refine inb_here ?_ | refine inb_past (by decide) ?_ | refine go_ret ?_ | refine next_ret ?_ | refine inb_ret ?_))
    (apply ends_ok; (case h1 => simp; exact is_rfl); (case h2 => simp; exact is_rfl))
    simp
  rw [if_pos hk]
  rw [decide_eq_true hk] at hV
  generalize bytesI k l z L = bs at hBy hbl
  obtain ⟨m, rfl⟩ : ∃ m : Nat, n = m := ⟨n.toNat, by omega⟩
  have f1 : (m : Int).tmod 4 = ((m % 4 : Nat) : Int) := by rw [Int.tmod_eq_emod_of_nonneg (by omega)]; rfl
  generalize 19 + (m : Int) / 4 = q at hS ⊢
  have hr : m % 4 < 4 := Nat.mod_lt _ (by omega)
  rw [Int.toNat_natCast]
  generalize m % 4 = r at f1 hr
  have f2 : IntKind.i64.wrap ((r : Int) * 32) = ((r * 32 : Nat) : Int) := by rw [wrap_id (by omega) (by omega)]; omega
  generalize ha : r * 32 = t at f2
  have f3 : IntKind.i64.wrap ((t : Int) + 32) = ((t + 32 : Nat) : Int) := wrap_id (by omega) (by omega)
  generalize hu : t + 32 = u at f3
  have g1 : t ≤ 128 := by omega
  have g2 : u ≤ 128 := by omega
  have g3 : s.take 128 = s := List.take_of_length_le (by omega)
  have g4 : min t 128 = t := by omega
  have r1 : t + 32 ≤ room := by unfold room; omega
  have r2 : t + 32 + (128 - u) ≤ room := by unfold room; omega
  have r3 : u ≤ room := by unfold room; omega
  have r4 : u + (128 - u) ≤ room := by unfold room; omega
  (refine gives_iff ?_; refine go_func Try.f20 rfl rfl (by simp [Try.f20]) ?_; dsimp only [codeL, Try.f20, scL, sopsL, guardL, dstAt, loopKey])
  (repeat (first
    | (apply is_ok; (case hw => simp [hL, hS, hV, hBy, hbl, hl, f1, f2, f3, g1, g2, g3, g4, r1, r2, hu, r3, r4]); (case he => simp [hL, hS, hV, hBy, hbl, hl, f1, f2, f3, g1, g2, g3, g4, r1, r2, hu, r3, r4]; exact is_rfl))
    | (apply op_no; (case hw => simp [hL, hS, hV, hBy, hbl, hl, f1, f2, f3, g1, g2, g3, g4, r1, r2, hu, r3, r4]))
    | refine op_nil ?_ | refine next_normal ?_ | refine go_seq ?_ | refine go_region ?_ | refine go_skip ?_ | refine go_block ?_ | refine inb_normal ?_
    | (apply go_yes; (case hc => simp [hL, hS, hV, hBy, hbl, hl, f1, f2, f3, g1, g2, g3, g4, r1, r2, hu, r3, r4])) | (apply go_no; (case hc => simp [hL, hS, hV, hBy, hbl, hl, f1, f2, f3, g1, g2, g3, g4, r1, r2, hu, r3, r4]))
    | refine go_exit ?_ | refine next_exit ?_ | refine inb_here ?_ | refine inb_past (by decide) ?_ | refine go_ret ?_ | refine next_ret ?_ | refine inb_ret ?_))
  (apply ends_ok; (case h1 => simp; exact is_rfl); (case h2 => simp; exact is_rfl))
  simp

/-- Is a drive bounded? -/
def SmallD (S : List (List UInt8)) (B : List Int) : Prop := (∀ i ∈ List.range S.length, i < 257 → (S.getD i []).length ≤ 200) ∧ S.length ≤ 256 ∧ B.length ≤ 100
instance (S : List (List UInt8)) (B : List Int) : Decidable (SmallD S B) := by unfold SmallD; infer_instance
theorem small38_eq (S : List (List UInt8)) (B : List Int) (hS : S.length ≤ maxLen) : bodyW DC 16 [drv S B] [] = some (.bool (decide (SmallD S B)), []) := by
  unfold maxLen at hS
  (refine gives_iff ?_; refine go_func Try.f16 rfl rfl (by simp [Try.f16]) ?_; dsimp only [codeL, Try.f16, scL, sopsL, guardL, dstAt, loopKey])
  (repeat (first
    | (apply is_ok; (case hw => simp); (case he => simp; exact is_rfl))
    | (apply op_no; (case hw => simp))
    | refine op_nil ?_ | refine next_normal ?_ | refine go_seq ?_ | refine go_region ?_ | refine go_skip ?_ | refine go_block ?_ | refine inb_normal ?_
    | (apply go_yes; (case hc => simp)) | (apply go_no; (case hc => simp))
    | refine go_exit ?_ | refine next_exit ?_ | refine inb_here ?_ | refine inb_past (by decide) ?_ | refine go_ret ?_ | refine next_ret ?_ | refine inb_ret ?_))
  refine go_count 257 (fun i => [(1, .ptr 0 1 0 0), (3, .int .i64 i)]) (fun _ => [.box (drv S B)]) (fun i => i ≤ S.length ∧ ∀ j (hj : j < S.length), j < i → S[j].length ≤ 200) (by simp) (by simp) fun i hi hI => ?_
  have hw : IntKind.i64.wrap ((i : Int) + 1) = (i : Int) + 1 := wrap_id (by omega) (by omega)
  have fin : (i = S.length ∨ i = 257) → (SmallD S B ↔ S.length ≤ 256 ∧ B.length ≤ 100) := fun h => by
    unfold SmallD
    refine ⟨fun h => h.2, fun h2 => ⟨fun j hj hj2 => ?_, h2⟩⟩
    have hj' := List.mem_range.1 hj
    rw [getD_at hj']
    exact hI.2 j hj' (by omega)
  by_cases h1 : i < S.length
  · by_cases h2 : i < 257
    · have h2' : (i : Int) < 257 := by omega
      by_cases h3 : S[i].length ≤ 200
      · have e3 : ¬ ((200 : Int) < S[i].length) := by omega
        (repeat (first
    | (apply is_ok; (case hw => simp [h1, h2, h2', e3]); (case he => simp [h1, h2, h2', e3]; exact is_rfl))
    | (apply op_no; (case hw => simp [h1, h2, h2', e3]))
    | refine op_nil ?_ | refine next_normal ?_ | refine go_seq ?_ | refine go_region ?_ | refine go_skip ?_ | refine go_block ?_ | refine inb_normal ?_
    | (apply go_yes; (case hc => simp [h1, h2, h2', e3])) | (apply go_no; (case hc => simp [h1, h2, h2', e3]))
    | refine go_exit ?_ | refine next_exit ?_ | refine inb_here ?_ | refine inb_past (by decide) ?_ | refine go_ret ?_ | refine next_ret ?_ | refine inb_ret ?_))
        exact ⟨h2, by simp [hw], h1, fun j hj hji => by
          by_cases hje : j = i
          · subst hje; exact h3
          · exact hI.2 j hj (by omega)⟩
      · have e3 : ((200 : Int) < S[i].length) := by omega
        (repeat (first
    | (apply is_ok; (case hw => simp [h1, h2, h2', e3]); (case he => simp [h1, h2, h2', e3]; exact is_rfl))
    | (apply op_no; (case hw => simp [h1, h2, h2', e3]))
    | refine op_nil ?_ | refine next_normal ?_ | refine go_seq ?_ | refine go_region ?_ | refine go_skip ?_ | refine go_block ?_ | refine inb_normal ?_
    | (apply go_yes; (case hc => simp [h1, h2, h2', e3])) | (apply go_no; (case hc => simp [h1, h2, h2', e3]))
    | refine go_exit ?_ | refine next_exit ?_ | refine inb_here ?_ | refine inb_past (by decide) ?_ | refine go_ret ?_ | refine next_ret ?_ | refine inb_ret ?_))
        (apply ends_ok; (case h1 => simp; exact is_rfl); (case h2 => simp; exact is_rfl))
        have : ¬ SmallD S B := fun h => h3 (by have := h.1 i (List.mem_range.2 h1) h2; rwa [getD_at h1] at this)
        simp [this]
    · have h2' : ¬ (i : Int) < 257 := by omega
      have hf := fin (.inr (by omega))
      have e4 : ¬ ((S.length : Int) ≤ 256) := by omega
      have hn : ¬ SmallD S B := fun h => by have := (hf.1 h).1; omega
      (repeat (first
    | (apply is_ok; (case hw => simp [h1, h2, h2', e4]); (case he => simp [h1, h2, h2', e4]; exact is_rfl))
    | (apply op_no; (case hw => simp [h1, h2, h2', e4]))
    | refine op_nil ?_ | refine next_normal ?_ | refine go_seq ?_ | refine go_region ?_ | refine go_skip ?_ | refine go_block ?_ | refine inb_normal ?_
    | (apply go_yes; (case hc => simp [h1, h2, h2', e4])) | (apply go_no; (case hc => simp [h1, h2, h2', e4]))
    | refine go_exit ?_ | refine next_exit ?_ | refine inb_here ?_ | refine inb_past (by decide) ?_ | refine go_ret ?_ | refine next_ret ?_ | refine inb_ret ?_))
      (apply ends_ok; (case h1 => simp; exact is_rfl); (case h2 => simp; exact is_rfl))
      simp [hn]
  · have hf := fin (.inl (by omega))
    by_cases h4 : S.length ≤ 256
    · have e4 : ((S.length : Int) ≤ 256) := by omega
      by_cases h5 : B.length ≤ 100
      · have e5 : ((B.length : Int) ≤ 100) := by omega
        have hn : SmallD S B := hf.2 ⟨h4, h5⟩
        (repeat (first
    | (apply is_ok; (case hw => simp [h1, e4, e5]); (case he => simp [h1, e4, e5]; exact is_rfl))
    | (apply op_no; (case hw => simp [h1, e4, e5]))
    | refine op_nil ?_ | refine next_normal ?_ | refine go_seq ?_ | refine go_region ?_ | refine go_skip ?_ | refine go_block ?_ | refine inb_normal ?_
    | (apply go_yes; (case hc => simp [h1, e4, e5])) | (apply go_no; (case hc => simp [h1, e4, e5]))
    | refine go_exit ?_ | refine next_exit ?_ | refine inb_here ?_ | refine inb_past (by decide) ?_ | refine go_ret ?_ | refine next_ret ?_ | refine inb_ret ?_))
        (apply ends_ok; (case h1 => simp; exact is_rfl); (case h2 => simp; exact is_rfl))
        simp [hn]
      · have e5 : ¬ ((B.length : Int) ≤ 100) := by omega
        have hn : ¬ SmallD S B := fun h => h5 (hf.1 h).2
        (repeat (first
    | (apply is_ok; (case hw => simp [h1, e4, e5]); (case he => simp [h1, e4, e5]; exact is_rfl))
    | (apply op_no; (case hw => simp [h1, e4, e5]))
    | refine op_nil ?_ | refine next_normal ?_ | refine go_seq ?_ | refine go_region ?_ | refine go_skip ?_ | refine go_block ?_ | refine inb_normal ?_
    | (apply go_yes; (case hc => simp [h1, e4, e5])) | (apply go_no; (case hc => simp [h1, e4, e5]))
    | refine go_exit ?_ | refine next_exit ?_ | refine inb_here ?_ | refine inb_past (by decide) ?_ | refine go_ret ?_ | refine next_ret ?_ | refine inb_ret ?_))
        (apply ends_ok; (case h1 => simp; exact is_rfl); (case h2 => simp; exact is_rfl))
        simp [hn]
    · have e4 : ¬ ((S.length : Int) ≤ 256) := by omega
      have hn : ¬ SmallD S B := fun h => h4 (hf.1 h).1
      (repeat (first
    | (apply is_ok; (case hw => simp [h1, e4]); (case he => simp [h1, e4]; exact is_rfl))
    | (apply op_no; (case hw => simp [h1, e4]))
    | refine op_nil ?_ | refine next_normal ?_ | refine go_seq ?_ | refine go_region ?_ | refine go_skip ?_ | refine go_block ?_ | refine inb_normal ?_
    | (apply go_yes; (case hc => simp [h1, e4])) | (apply go_no; (case hc => simp [h1, e4]))
    | refine go_exit ?_ | refine next_exit ?_ | refine inb_here ?_ | refine inb_past (by decide) ?_ | refine go_ret ?_ | refine next_ret ?_ | refine inb_ret ?_))
      (apply ends_ok; (case h1 => simp; exact is_rfl); (case h2 => simp; exact is_rfl))
      simp [hn]

theorem eqL_wr (i j : Int) (s u : List UInt8) : eqL Try.prog 10000 38 [.int .i64 i, .str s] [.int .i64 j, .str u] = some (decide (i = j) && decide (s = u)) := by
  have s1 : Try.prog.stoodInHeld 38 = false := by kernel_rfl
  have o1 : okT Try.prog 3 = true := by kernel_rfl
  have o2 : okT Try.prog 9 = true := by kernel_rfl
  have z1 : sizeL Try.prog 3 = 1 := by kernel_rfl
  have z2 : sizeL Try.prog 9 = 1 := by kernel_rfl
  rw [show (10000 : Nat) = 9997 + 3 from rfl]
  generalize 9997 = n
  simp [eqL, eqFs, eqNs, s1, o1, o2, z1, z2, Try.underlying38, Try.underlying9, Try.underlying3]
  rw [Bool.eq_iff_iff]
  simp
theorem same_wr (i : Int) (s : List UInt8) : binV Try.prog .eql 38 (.agg [.int .i64 i, .str s]) (.agg [.int .i64 i, .str s]) = some (.bool true) := by
  have h := (binV_agg (P := Try.prog) (t := 38) (d := 10000) rfl (by kernel_rfl) (by kernel_rfl) rfl rfl (eqL_wr i i s s)).1
  simp only [decide_true, Bool.and_self] at h
  exact h

theorem getV_shape (S : List (List UInt8)) (B : List Int) (n : Int) : ∃ k l z a b c d e f g h, getV S B n = .agg [.int .i64 k, .int .i64 l, .int .i64 z, .int .i64 a, .int .i64 b, .int .i64 c, .int .i64 d, .int .i64 e, .int .i64 f, .int .i64 g, .int .i64 h] ∧ In64 [k, l, z, a, b, c, d, e, f, g, h] := by
  unfold getV
  split
  · exact parseV_shape _
  · exact ⟨0, 0, 0, 0, 0, 0, 0, 0, 0, 0, 0, rfl, by intro x hx; simp at hx; omega⟩

theorem InodeGets_eq (S : List (List UInt8)) (B : List Int) (hS : S.length ≤ maxLen) (hB : B.length ≤ maxLen) (n k l z : Int) (L : List Int) (hL : L.length = 8) (hX : In64 (k :: l :: z :: L)) :
    bodyW DC 4 [drv S B, .int .i64 n, inoV k l z L] [] = some (.bool true, []) := by
  have hM := small38_eq S B hS
  by_cases hs : SmallD S B
  case neg =>
    (refine gives_iff ?_; refine go_func Try.f4 rfl rfl (by simp [Try.f4]) ?_; dsimp only [codeL, Try.f4, scL, sopsL, guardL, dstAt, loopKey])
    (repeat (first
    | (apply is_ok; (case hw => simp [hL, hM, hs]); (case he => simp [hL, hM, hs]; exact is_rfl))
    | (apply op_no; (case hw => simp [hL, hM, hs]))
    | refine op_nil ?_ | refine next_normal ?_ | refine go_seq ?_ | refine go_region ?_ | refine go_skip ?_ | refine go_block ?_ | refine inb_normal ?_
    | (apply go_yes; (case hc => simp [hL, hM, hs])) | (apply go_no; (case hc => simp [hL, hM, hs]))
    | refine go_exit ?_ | refine next_exit ?_ | refine inb_here ?_ | refine inb_past (by decide) ?_ | refine go_ret ?_ | refine next_ret ?_ | refine inb_ret ?_))
    (apply ends_ok; (case h1 => simp; exact is_rfl); (case h2 => simp; exact is_rfl))
    simp
  have hG := Get38_eq S B hB n
  have hG' := Get38R_eq S B hB n
  have hP := Put38_eq S B hB n k l z L hL hX
  have hP' := Put38R_eq S B hB n k l z L hL hX
  have hA := alive38_eq
  obtain ⟨k', l', z', a, b, c, d, e, f, g, h, hv, _⟩ := getV_shape S B n
  rw [hv] at hG hG'
  have hE := same_ino k' l' z' a b c d e f g h
  generalize getE S B n = ee at hG hG'
  generalize putW S B n k l z L = p at hP hP'
  have hE2 := same_wr p.1.1 p.1.2
  (refine gives_iff ?_; refine go_func Try.f4 rfl rfl (by simp [Try.f4]) ?_; dsimp only [codeL, Try.f4, scL, sopsL, guardL, dstAt, loopKey])
  (repeat (first
    | (apply is_ok; (case hw => simp [-binV, hL, hM, hs, hG, hG', hP, hP', hA, hE, hE2]); (case he => simp [-binV, hL, hM, hs, hG, hG', hP, hP', hA, hE, hE2]; exact is_rfl))
    | (apply op_no; (case hw => simp [-binV, hL, hM, hs, hG, hG', hP, hP', hA, hE, hE2]))
    | refine op_nil ?_ | refine next_normal ?_ | refine go_seq ?_ | refine go_region ?_ | refine go_skip ?_ | refine go_block ?_ | refine inb_normal ?_
    | (apply go_yes; (case hc => simp [-binV, hL, hM, hs, hG, hG', hP, hP', hA, hE, hE2])) | (apply go_no; (case hc => simp [-binV, hL, hM, hs, hG, hG', hP, hP', hA, hE, hE2]))
    | refine go_exit ?_ | refine next_exit ?_ | refine inb_here ?_ | refine inb_past (by decide) ?_ | refine go_ret ?_ | refine next_ret ?_ | refine inb_ret ?_))
  (apply ends_ok; (case h1 => simp; exact is_rfl); (case h2 => simp; exact is_rfl))
  simp
end Go.Abs

namespace Go.Abs
open Go.Proofs
set_option maxRecDepth 100000
set_option linter.unusedSimpArgs false
set_option linter.unusedVariables false

/-- A bit of a bitmap. -/
def bitB (s : List UInt8) (n : Nat) : Bool := (s.getD (n / 8) 0).toNat / 2 ^ (n % 8) % 2 == 1
theorem and7 (n : Nat) (h : n ≤ 1000000) : intOp .and .i64 (n : Int) 7 = some (.int .i64 ((n % 8 : Nat) : Int)) := by
  show some (V.int .i64 (IntKind.i64.wrap ((BitVec.ofInt 64 (n : Int) &&& 7#64).toNat : Int))) = _
  have e : (BitVec.ofInt 64 (n : Int) &&& 7#64).toNat = n % 8 := by
    rw [BitVec.toNat_and, BitVec.toNat_ofInt]
    rw [show ((n : Int) % (2 ^ 64 : Nat)).toNat = n by omega]
    exact Nat.and_two_pow_sub_one_eq_mod _ 3
  rw [e, wrap_id (by omega) (by omega)]
theorem and1_i64 (n : Nat) (h : n ≤ 1000000) : intOp .and .i64 (n : Int) 1 = some (.int .i64 ((n % 2 : Nat) : Int)) := by
  show some (V.int .i64 (IntKind.i64.wrap ((BitVec.ofInt 64 (n : Int) &&& 1#64).toNat : Int))) = _
  have e : (BitVec.ofInt 64 (n : Int) &&& 1#64).toNat = n % 2 := by
    rw [BitVec.toNat_and, BitVec.toNat_ofInt]
    rw [show ((n : Int) % (2 ^ 64 : Nat)).toNat = n by omega]
    exact Nat.and_two_pow_sub_one_eq_mod _ 1
  rw [e, wrap_id (by omega) (by omega)]
theorem and1_u8 (n : Nat) (h : n < 256) : intOp .and .u8 (n : Int) 1 = some (.int .u8 ((n % 2 : Nat) : Int)) := by
  show some (V.int .u8 (IntKind.u8.wrap ((BitVec.ofInt 8 (n : Int) &&& 1#8).toNat : Int))) = _
  have e : (BitVec.ofInt 8 (n : Int) &&& 1#8).toNat = n % 2 := by
    rw [BitVec.toNat_and, BitVec.toNat_ofInt]
    rw [show ((n : Int) % (2 ^ 8 : Nat)).toNat = n by omega]
    exact Nat.and_two_pow_sub_one_eq_mod _ 1
  rw [e, wrap_u8_nat]
  congr 2
  omega
theorem intOp_quo8 (a : Int) : intOp .quo .i64 a 8 = some (.int .i64 (IntKind.i64.wrap (a.tdiv 8))) := rfl
theorem intOp_rem8 (a : Int) : intOp .rem .i64 a 8 = some (.int .i64 (a.tmod 8)) := rfl
theorem div_pow_le (x r : Nat) : x / 2 ^ r ≤ x := Nat.div_le_self _ _

theorem set_eq (s : List UInt8) (n : Nat) (h : n / 8 < s.length) (hn : n ≤ 1000000) : bodyW DC 50 [.sl (u8s s), .int .i64 n] [] = some (.bool (bitB s n), []) := by
  have f1 : (n : Int).fdiv 8 = ((n / 8 : Nat) : Int) := fdiv_nat n 8
  have f2 := and7 n hn
  unfold bitB
  rw [getD_at h]
  generalize hx : s[n / 8]'h = x
  have g0 : (u8s s)[n / 8]? = some (.int .u8 x.toNat) := by
    unfold u8s
    rw [List.getElem?_map, List.getElem?_eq_getElem h, hx]; rfl
  have hx8 := x.toNat_lt
  have hr : n % 8 < 8 := Nat.mod_lt _ (by omega)
  generalize n / 8 = q at f1 g0 h
  generalize n % 8 = r at f2 hr
  have f3 : (x.toNat : Int).fdiv (2 ^ r) = ((x.toNat / 2 ^ r : Nat) : Int) := by
    have := fdiv_nat x.toNat (2 ^ r)
    rwa [Int.natCast_pow] at this
  have hv := div_pow_le x.toNat r
  generalize x.toNat / 2 ^ r = v at f3 hv
  have f4 := and1_u8 v (by omega)
  have f5 : min r 8 = r := by omega
  (refine gives_iff ?_; refine go_func Try.f50 rfl rfl (by simp [Try.f50]) ?_; dsimp only [codeL, Try.f50, scL, sopsL, guardL, dstAt, loopKey])
  (repeat (first
    | (apply is_ok; (case hw => simp [-intOp, f1, f2, f3, f4, f5, g0]); (case he => simp [-intOp, f1, f2, f3, f4, f5, g0]; exact is_rfl))
    | (apply op_no; (case hw => simp [-intOp, f1, f2, f3, f4, f5, g0]))
    | refine op_nil ?_ | refine next_normal ?_ | refine go_seq ?_ | refine go_region ?_ | refine go_skip ?_ | refine go_block ?_ | refine inb_normal ?_
    | (apply go_yes; (case hc => simp [-intOp, f1, f2, f3, f4, f5, g0])) | (apply go_no; (case hc => simp [-intOp, f1, f2, f3, f4, f5, g0]))
    | refine go_exit ?_ | refine next_exit ?_ | refine inb_here ?_ | refine inb_past (by decide) ?_ | refine go_ret ?_ | refine next_ret ?_ | refine inb_ret ?_))
  (apply ends_ok; (case h1 => simp; exact is_rfl); (case h2 => simp; exact is_rfl))
  refine ⟨congrArg V.bool ?_, rfl⟩
  rw [Bool.eq_iff_iff]
  simp
  omega

theorem bit_eq (s : List UInt8) (n : Nat) (h : n / 8 < s.length) (hn : n ≤ 1000000) : bodyW DC 52 [.str s, .int .i64 n] [] = some (.bool (bitB s n), []) := by
  have f1 : (n : Int).tdiv 8 = ((n / 8 : Nat) : Int) := by rw [Int.tdiv_eq_ediv_of_nonneg (by omega)]; rfl
  have f2 : (n : Int).tmod 8 = ((n % 8 : Nat) : Int) := by rw [Int.tmod_eq_emod_of_nonneg (by omega)]; rfl
  have f6 : IntKind.i64.wrap ((n / 8 : Nat) : Int) = ((n / 8 : Nat) : Int) := wrap_id (by omega) (by omega)
  unfold bitB
  rw [getD_at h]
  generalize hx : s[n / 8]'h = x
  have g0 : s[n / 8]? = some x := by rw [List.getElem?_eq_getElem h, hx]
  have hx8 := x.toNat_lt
  have hr : n % 8 < 8 := Nat.mod_lt _ (by omega)
  generalize n / 8 = q at f1 g0 h f6 hx
  generalize n % 8 = r at f2 hr
  have f3 : (x.toNat : Int).fdiv (2 ^ r) = ((x.toNat / 2 ^ r : Nat) : Int) := by
    have := fdiv_nat x.toNat (2 ^ r)
    rwa [Int.natCast_pow] at this
  have f7 := wrap_byte x
  have hv := div_pow_le x.toNat r
  generalize hv' : x.toNat / 2 ^ r = v at f3 hv
  have f4 := and1_i64 v (by omega)
  have f5 : min r 64 = r := by omega
  (refine gives_iff ?_; refine go_func Try.f52 rfl rfl (by simp [Try.f52]) ?_; dsimp only [codeL, Try.f52, scL, sopsL, guardL, dstAt, loopKey])
  (repeat (first
    | (apply is_ok; (case hw => simp [-intOp, intOp_quo8, intOp_rem8, f1, f2, f3, f4, f5, f6, f7, g0, h, hx]); (case he => simp [-intOp, intOp_quo8, intOp_rem8, f1, f2, f3, f4, f5, f6, f7, g0, h, hx]; exact is_rfl))
    | (apply op_no; (case hw => simp [-intOp, intOp_quo8, intOp_rem8, f1, f2, f3, f4, f5, f6, f7, g0, h, hx]))
    | refine op_nil ?_ | refine next_normal ?_ | refine go_seq ?_ | refine go_region ?_ | refine go_skip ?_ | refine go_block ?_ | refine inb_normal ?_
    | (apply go_yes; (case hc => simp [-intOp, intOp_quo8, intOp_rem8, f1, f2, f3, f4, f5, f6, f7, g0, h, hx])) | (apply go_no; (case hc => simp [-intOp, intOp_quo8, intOp_rem8, f1, f2, f3, f4, f5, f6, f7, g0, h, hx]))
    | refine go_exit ?_ | refine next_exit ?_ | refine inb_here ?_ | refine inb_past (by decide) ?_ | refine go_ret ?_ | refine next_ret ?_ | refine inb_ret ?_))
  (apply ends_ok; (case h1 => simp; exact is_rfl); (case h2 => simp; exact is_rfl))
  refine ⟨congrArg V.bool ?_, rfl⟩
  rw [Bool.eq_iff_iff]
  simp
  omega

/-- The bitmap. -/
def mapS (S : List (List UInt8)) (B : List Int) : List UInt8 × Int := if VolP S B then readS S B 18 else ([], 9)
theorem map_ok {S : List (List UInt8)} {B : List Int} (h : (mapS S B).2 = 0) : VolP S B ∧ (mapS S B).1.length = 128 := by
  unfold mapS at h ⊢
  by_cases hv : VolP S B
  · rw [if_pos hv] at h ⊢
    have hb := vol_bounds hv
    unfold readS at h ⊢
    rw [if_pos (by omega)] at h ⊢
    by_cases hi : (18 : Int) ∈ B
    · rw [if_pos hi] at h; exact absurd h (by simp)
    · rw [if_neg hi]
      have hlt : (18 : Int).toNat < S.length := by omega
      exact ⟨hv, by rw [getD_at hlt]; exact hv.1.2.2.1 _ (List.getElem_mem hlt)⟩
  · rw [if_neg hv] at h; exact absurd h (by simp)

abbrev extV (a b : Int) : V := .agg [.int .i64 a, .int .i64 b]

theorem bits_no (S : List (List UInt8)) (B : List Int) (hB : B.length ≤ maxLen) (h : (mapS S B).2 ≠ 0) : bodyW DC 49 [drv S B] [] = some (.tuple [extV 0 0, .own 0 0 0 0, .int .i64 (mapS S B).2], [.dat true 1 []]) := by
  have hL := Layout_eq S B hB
  unfold mapS at h ⊢
  by_cases hv : VolP S B
  case neg =>
    rw [layV_no hv] at hL
    rw [if_neg hv]
    (refine gives_iff ?_; refine go_func Try.f49 rfl rfl (by simp [Try.f49]) ?_; dsimp only [codeL, Try.f49, scL, sopsL, guardL, dstAt, loopKey])
    (repeat (first
    | (apply is_ok; (case hw => simp [hL]); (case he => simp [hL]; exact is_rfl))
    | (apply op_no; (case hw => simp [hL]))
    | refine op_nil ?_ | refine next_normal ?_ | refine go_seq ?_ | refine go_region ?_ | refine go_skip ?_ | refine go_block ?_ | refine inb_normal ?_
    | (apply go_yes; (case hc => simp [hL])) | (apply go_no; (case hc => simp [hL]))
    | refine go_exit ?_ | refine next_exit ?_ | refine inb_here ?_ | refine inb_past (by decide) ?_ | refine go_ret ?_ | refine next_ret ?_ | refine inb_ret ?_))
    (apply ends_ok; (case h1 => simp; exact is_rfl); (case h2 => simp; exact is_rfl))
    simp
  rw [layV_yes hv] at hL
  rw [if_pos hv] at h ⊢
  have hR := Read_eq S B hB 18
  generalize readS S B 18 = r at hR h
  (refine gives_iff ?_; refine go_func Try.f49 rfl rfl (by simp [Try.f49]) ?_; dsimp only [codeL, Try.f49, scL, sopsL, guardL, dstAt, loopKey])
  (repeat (first
    | (apply is_ok; (case hw => simp [hL, hR, h]); (case he => simp [hL, hR, h]; exact is_rfl))
    | (apply op_no; (case hw => simp [hL, hR, h]))
    | refine op_nil ?_ | refine next_normal ?_ | refine go_seq ?_ | refine go_region ?_ | refine go_skip ?_ | refine go_block ?_ | refine inb_normal ?_
    | (apply go_yes; (case hc => simp [hL, hR, h])) | (apply go_no; (case hc => simp [hL, hR, h]))
    | refine go_exit ?_ | refine next_exit ?_ | refine inb_here ?_ | refine inb_past (by decide) ?_ | refine go_ret ?_ | refine next_ret ?_ | refine inb_ret ?_))
  (apply ends_ok; (case h1 => simp; exact is_rfl); (case h2 => simp; exact is_rfl))
  simp

theorem bits_ok (S : List (List UInt8)) (B : List Int) (hB : B.length ≤ maxLen) (h : (mapS S B).2 = 0) : bodyW DC 49 [drv S B] [] = some (.tuple [extV 27 (S.length - swapW S - 27), .own 0 128 0 128, .int .i64 0], [.dat true 1 (u8s (mapS S B).1)]) := by
  have hL := Layout_eq S B hB
  obtain ⟨hv, hl⟩ := map_ok h
  rw [layV_yes hv] at hL
  have hR := Read_eq S B hB 18
  have e : mapS S B = readS S B 18 := by unfold mapS; rw [if_pos hv]
  rw [e] at h hl ⊢
  rw [h] at hR
  generalize (readS S B 18).1 = s at hR hl
  have r1 : (128 : Nat) ≤ room := by unfold room; omega
  (refine gives_iff ?_; refine go_func Try.f49 rfl rfl (by simp [Try.f49]) ?_; dsimp only [codeL, Try.f49, scL, sopsL, guardL, dstAt, loopKey])
  (repeat (first
    | (apply is_ok; (case hw => simp [hL, hR, hl, r1]); (case he => simp [hL, hR, hl, r1]; exact is_rfl))
    | (apply op_no; (case hw => simp [hL, hR, hl, r1]))
    | refine op_nil ?_ | refine next_normal ?_ | refine go_seq ?_ | refine go_region ?_ | refine go_skip ?_ | refine go_block ?_ | refine inb_normal ?_
    | (apply go_yes; (case hc => simp [hL, hR, hl, r1])) | (apply go_no; (case hc => simp [hL, hR, hl, r1]))
    | refine go_exit ?_ | refine next_exit ?_ | refine inb_here ?_ | refine inb_past (by decide) ?_ | refine go_ret ?_ | refine next_ret ?_ | refine inb_ret ?_))
  (apply ends_ok; (case h1 => simp; exact is_rfl); (case h2 => simp; exact is_rfl))
  simp

theorem bitmap_eq (S : List (List UInt8)) (B : List Int) (hB : B.length ≤ maxLen) : ∃ a b, bodyW DC 51 [drv S B] [] = some (.tuple [extV a b, .str (mapS S B).1, .int .i64 (mapS S B).2], []) ∧ ((mapS S B).2 = 0 → a = 27 ∧ b = S.length - swapW S - 27) := by
  have hL := LayoutR_eq S B hB
  unfold mapS
  by_cases hv : VolP S B
  case neg =>
    rw [layV_no hv] at hL
    rw [if_neg hv]
    refine ⟨0, 0, ?_, fun h => absurd h (by simp)⟩
    (refine gives_iff ?_; refine go_func Try.f51 rfl rfl (by simp [Try.f51]) ?_; dsimp only [codeL, Try.f51, scL, sopsL, guardL, dstAt, loopKey])
    (repeat (first
    | (apply is_ok; (case hw => simp [hL]); (case he => simp [hL]; exact is_rfl))
    | (apply op_no; (case hw => simp [hL]))
    | refine op_nil ?_ | refine next_normal ?_ | refine go_seq ?_ | refine go_region ?_ | refine go_skip ?_ | refine go_block ?_ | refine inb_normal ?_
    | (apply go_yes; (case hc => simp [hL])) | (apply go_no; (case hc => simp [hL]))
    | refine go_exit ?_ | refine next_exit ?_ | refine inb_here ?_ | refine inb_past (by decide) ?_ | refine go_ret ?_ | refine next_ret ?_ | refine inb_ret ?_))
    (apply ends_ok; (case h1 => simp; exact is_rfl); (case h2 => simp; exact is_rfl))
    simp
  rw [layV_yes hv] at hL
  rw [if_pos hv]
  have hR := ReadR_eq S B hB 18
  generalize readS S B 18 = r at hR
  refine ⟨27, S.length - swapW S - 27, ?_, fun _ => ⟨rfl, rfl⟩⟩
  (refine gives_iff ?_; refine go_func Try.f51 rfl rfl (by simp [Try.f51]) ?_; dsimp only [codeL, Try.f51, scL, sopsL, guardL, dstAt, loopKey])
  (repeat (first
    | (apply is_ok; (case hw => simp [hL, hR]); (case he => simp [hL, hR]; exact is_rfl))
    | (apply op_no; (case hw => simp [hL, hR]))
    | refine op_nil ?_ | refine next_normal ?_ | refine go_seq ?_ | refine go_region ?_ | refine go_skip ?_ | refine go_block ?_ | refine inb_normal ?_
    | (apply go_yes; (case hc => simp [hL, hR])) | (apply go_no; (case hc => simp [hL, hR]))
    | refine go_exit ?_ | refine next_exit ?_ | refine inb_here ?_ | refine inb_past (by decide) ?_ | refine go_ret ?_ | refine next_ret ?_ | refine inb_ret ?_))
  (apply ends_ok; (case h1 => simp; exact is_rfl); (case h2 => simp; exact is_rfl))
  simp
end Go.Abs

namespace Go.Abs
open Go.Proofs
set_option maxRecDepth 100000
set_option linter.unusedSimpArgs false
set_option linter.unusedVariables false

/-- The numbers from 27 on, n of them, whose bits are not set. -/
def freeL (s : List UInt8) (n : Nat) : List Int := ((List.range n).filter fun i => !bitB s (27 + i)).map fun i => ((27 + i : Nat) : Int)
theorem freeL_succ (s : List UInt8) (n : Nat) : freeL s (n + 1) = if bitB s (27 + n) = true then freeL s n else freeL s n ++ [((27 + n : Nat) : Int)] := by
  unfold freeL
  rw [List.range_succ, List.filter_append, List.map_append]
  by_cases h : bitB s (27 + n) = true <;> simp [h]
theorem freeL_length (s : List UInt8) (n : Nat) : (freeL s n).length ≤ n := by
  unfold freeL
  rw [List.length_map]
  exact Nat.le_trans (List.length_filter_le _ _) (by simp)
def freeN (S : List (List UInt8)) : Nat := ((S.length : Int) - swapW S - 27).toNat
theorem freeN_eq {S : List (List UInt8)} {B : List Int} (h : VolP S B) : (S.length : Int) - swapW S - 27 = (freeN S : Nat) ∧ freeN S ≤ 229 := by
  have := vol_bounds h
  unfold freeN
  omega

theorem Free_ok (S : List (List UInt8)) (B : List Int) (hB : B.length ≤ maxLen) (h : (mapS S B).2 = 0) :
    bodyW DC 21 [drv S B] [] = some (.tuple [.own 0 (freeL (mapS S B).1 (freeN S)).length 0 (freeL (mapS S B).1 (freeN S)).length, .int .i64 0], [.dat true 1 (ints (freeL (mapS S B).1 (freeN S)))]) := by
  have hb := bits_ok S B hB h
  obtain ⟨hv, hl⟩ := map_ok h
  obtain ⟨hn, hn2⟩ := freeN_eq hv
  rw [hn] at hb
  generalize freeN S = n at hb hn2
  generalize (mapS S B).1 = s at hb hl
  have hu : (u8s s).length = 128 := by simp [hl]
  (refine gives_iff ?_; refine go_func Try.f21 rfl rfl (by simp [Try.f21]) ?_; dsimp only [codeL, Try.f21, scL, sopsL, guardL, dstAt, loopKey])
  (repeat (first
    | (apply is_ok; (case hw => simp [hb]); (case he => simp [hb]; exact is_rfl))
    | (apply op_no; (case hw => simp [hb]))
    | refine op_nil ?_ | refine next_normal ?_ | refine go_seq ?_ | refine go_region ?_ | refine go_skip ?_ | refine go_block ?_ | refine inb_normal ?_
    | (apply go_yes; (case hc => simp [hb])) | (apply go_no; (case hc => simp [hb]))
    | refine go_exit ?_ | refine next_exit ?_ | refine inb_here ?_ | refine inb_past (by decide) ?_ | refine go_ret ?_ | refine next_ret ?_ | refine inb_ret ?_))
  refine go_count n (fun i => [(4, .ptr 0 1 0 0), (5, .own 1 128 0 128), (7, .own 2 (freeL s i).length 0 (freeL s i).length), (8, .int .i64 ((27 + i : Nat) : Int))])
    (fun i => [.box (extV 27 (n : Int)), .dat true 1 (u8s s), .dat true 1 (ints (freeL s i))]) (fun _ => True) (by simp [freeL]) trivial fun i hi _ => ?_
  have hs := freeL_succ s i
  have hL := freeL_length s i
  have hset := set_eq s (27 + i) (by omega) (by omega)
  have w1 : IntKind.i64.wrap (27 + (n : Int)) = 27 + n := wrap_id (by omega) (by omega)
  generalize hj : 27 + i = j at hs hset
  have w2 : IntKind.i64.wrap ((j : Int) + 1) = ((j + 1 : Nat) : Int) := wrap_id (by omega) (by omega)
  have hj1 : 27 + (i + 1) = j + 1 := by omega
  have r1 : ((freeL s i).length + 1) * 8 ≤ room := by unfold room; omega
  have r2 : (freeL s i).length + 1 ≤ room := by unfold room; omega
  by_cases hlt : (j : Int) < 27 + n
  · by_cases hbt : bitB s j = true
    · rw [if_pos hbt] at hs
      rw [hbt] at hset
      (repeat (first
    | (apply is_ok; (case hw => simp [w1, hlt, hu, hset]); (case he => simp [w1, hlt, hu, hset]; exact is_rfl))
    | (apply op_no; (case hw => simp [w1, hlt, hu, hset]))
    | refine op_nil ?_ | refine next_normal ?_ | refine go_seq ?_ | refine go_region ?_ | refine go_skip ?_ | refine go_block ?_ | refine inb_normal ?_
    | (apply go_yes; (case hc => simp [w1, hlt, hu, hset])) | (apply go_no; (case hc => simp [w1, hlt, hu, hset]))
    | refine go_exit ?_ | refine next_exit ?_ | refine inb_here ?_ | refine inb_past (by decide) ?_ | refine go_ret ?_ | refine next_ret ?_ | refine inb_ret ?_))
      exact ⟨by omega, by simp [hs, w2, hj1], trivial⟩
    · rw [if_neg hbt] at hs
      rw [show bitB s j = false by simpa using hbt] at hset
      (repeat (first
    | (apply is_ok; (case hw => simp [w1, hlt, hu, hset, r1, r2]); (case he => simp [w1, hlt, hu, hset, r1, r2]; exact is_rfl))
    | (apply op_no; (case hw => simp [w1, hlt, hu, hset, r1, r2]))
    | refine op_nil ?_ | refine next_normal ?_ | refine go_seq ?_ | refine go_region ?_ | refine go_skip ?_ | refine go_block ?_ | refine inb_normal ?_
    | (apply go_yes; (case hc => simp [w1, hlt, hu, hset, r1, r2])) | (apply go_no; (case hc => simp [w1, hlt, hu, hset, r1, r2]))
    | refine go_exit ?_ | refine next_exit ?_ | refine inb_here ?_ | refine inb_past (by decide) ?_ | refine go_ret ?_ | refine next_ret ?_ | refine inb_ret ?_))
      exact ⟨by omega, by simp [hs, w2, hj1], trivial⟩
  · have hin : i = n := by omega
    subst hin
    (repeat (first
    | (apply is_ok; (case hw => simp [w1, hlt]); (case he => simp [w1, hlt]; exact is_rfl))
    | (apply op_no; (case hw => simp [w1, hlt]))
    | refine op_nil ?_ | refine next_normal ?_ | refine go_seq ?_ | refine go_region ?_ | refine go_skip ?_ | refine go_block ?_ | refine inb_normal ?_
    | (apply go_yes; (case hc => simp [w1, hlt])) | (apply go_no; (case hc => simp [w1, hlt]))
    | refine go_exit ?_ | refine next_exit ?_ | refine inb_here ?_ | refine inb_past (by decide) ?_ | refine go_ret ?_ | refine next_ret ?_ | refine inb_ret ?_))
    (apply ends_ok; (case h1 => simp; exact is_rfl); (case h2 => simp; exact is_rfl))
    simp
theorem Free_no (S : List (List UInt8)) (B : List Int) (hB : B.length ≤ maxLen) (h : (mapS S B).2 ≠ 0) : bodyW DC 21 [drv S B] [] = some (.tuple [.own 0 0 0 0, .int .i64 (mapS S B).2], [.dat true 1 []]) := by
  have hb := bits_no S B hB h
  generalize (mapS S B).2 = e at hb h
  (refine gives_iff ?_; refine go_func Try.f21 rfl rfl (by simp [Try.f21]) ?_; dsimp only [codeL, Try.f21, scL, sopsL, guardL, dstAt, loopKey])
  (repeat (first
    | (apply is_ok; (case hw => simp [hb, h]); (case he => simp [hb, h]; exact is_rfl))
    | (apply op_no; (case hw => simp [hb, h]))
    | refine op_nil ?_ | refine next_normal ?_ | refine go_seq ?_ | refine go_region ?_ | refine go_skip ?_ | refine go_block ?_ | refine inb_normal ?_
    | (apply go_yes; (case hc => simp [hb, h])) | (apply go_no; (case hc => simp [hb, h]))
    | refine go_exit ?_ | refine next_exit ?_ | refine inb_here ?_ | refine inb_past (by decide) ?_ | refine go_ret ?_ | refine next_ret ?_ | refine inb_ret ?_))
  (apply ends_ok; (case h1 => simp; exact is_rfl); (case h2 => simp; exact is_rfl))
  simp
theorem FreeR_ok (S : List (List UInt8)) (B : List Int) (hB : B.length ≤ maxLen) (h : (mapS S B).2 = 0) :
    bodyW DC 22 [drv S B] [] = some (.tuple [.own 0 (freeL (mapS S B).1 (freeN S)).length 0 (freeL (mapS S B).1 (freeN S)).length, .int .i64 0], [.dat true 1 (ints (freeL (mapS S B).1 (freeN S)))]) := by
  obtain ⟨a, b, hb, hab⟩ := bitmap_eq S B hB
  obtain ⟨rfl, rfl⟩ := hab h
  obtain ⟨hv, hl⟩ := map_ok h
  obtain ⟨hn, hn2⟩ := freeN_eq hv
  rw [hn, h] at hb
  clear hab
  generalize freeN S = n at hb hn2
  generalize (mapS S B).1 = s at hb hl
  (refine gives_iff ?_; refine go_func Try.f22 rfl rfl (by simp [Try.f22]) ?_; dsimp only [codeL, Try.f22, scL, sopsL, guardL, dstAt, loopKey])
  (repeat (first
    | (apply is_ok; (case hw => simp [hb]); (case he => simp [hb]; exact is_rfl))
    | (apply op_no; (case hw => simp [hb]))
    | refine op_nil ?_ | refine next_normal ?_ | refine go_seq ?_ | refine go_region ?_ | refine go_skip ?_ | refine go_block ?_ | refine inb_normal ?_
    | (apply go_yes; (case hc => simp [hb])) | (apply go_no; (case hc => simp [hb]))
    | refine go_exit ?_ | refine next_exit ?_ | refine inb_here ?_ | refine inb_past (by decide) ?_ | refine go_ret ?_ | refine next_ret ?_ | refine inb_ret ?_))
  refine go_count n (fun i => [(4, .ptr 0 1 0 0), (5, .str s), (7, .own 1 (freeL s i).length 0 (freeL s i).length), (8, .int .i64 ((27 + i : Nat) : Int))])
    (fun i => [.box (extV 27 (n : Int)), .dat true 1 (ints (freeL s i))]) (fun _ => True) (by simp [freeL]) trivial fun i hi _ => ?_
  have hs := freeL_succ s i
  have hL := freeL_length s i
  have hset := bit_eq s (27 + i) (by omega) (by omega)
  have w1 : IntKind.i64.wrap (27 + (n : Int)) = 27 + n := wrap_id (by omega) (by omega)
  generalize hj : 27 + i = j at hs hset
  have w2 : IntKind.i64.wrap ((j : Int) + 1) = ((j + 1 : Nat) : Int) := wrap_id (by omega) (by omega)
  have hj1 : 27 + (i + 1) = j + 1 := by omega
  have r1 : ((freeL s i).length + 1) * 8 ≤ room := by unfold room; omega
  have r2 : (freeL s i).length + 1 ≤ room := by unfold room; omega
  by_cases hlt : (j : Int) < 27 + n
  · by_cases hbt : bitB s j = true
    · rw [if_pos hbt] at hs
      rw [hbt] at hset
      (repeat (first
    | (apply is_ok; (case hw => simp [w1, hlt, hset]); (case he => simp [w1, hlt, hset]; exact is_rfl))
    | (apply op_no; (case hw => simp [w1, hlt, hset]))
    | refine op_nil ?_ | refine next_normal ?_ | refine go_seq ?_ | refine go_region ?_ | refine go_skip ?_ | refine go_block ?_ | refine inb_normal ?_
    | (apply go_yes; (case hc => simp [w1, hlt, hset])) | (apply go_no; (case hc => simp [w1, hlt, hset]))
    | refine go_exit ?_ | refine next_exit ?_ | refine inb_here ?_ | refine inb_past (by decide) ?_ | refine go_ret ?_ | refine next_ret ?_ | refine inb_ret ?_))
      exact ⟨by omega, by simp [hs, w2, hj1], trivial⟩
    · rw [if_neg hbt] at hs
      rw [show bitB s j = false by simpa using hbt] at hset
      (repeat (first
    | (apply is_ok; (case hw => simp [w1, hlt, hset, r1, r2]); (case he => simp [w1, hlt, hset, r1, r2]; exact is_rfl))
    | (apply op_no; (case hw => simp [w1, hlt, hset, r1, r2]))
    | refine op_nil ?_ | refine next_normal ?_ | refine go_seq ?_ | refine go_region ?_ | refine go_skip ?_ | refine go_block ?_ | refine inb_normal ?_
    | (apply go_yes; (case hc => simp [w1, hlt, hset, r1, r2])) | (apply go_no; (case hc => simp [w1, hlt, hset, r1, r2]))
    | refine go_exit ?_ | refine next_exit ?_ | refine inb_here ?_ | refine inb_past (by decide) ?_ | refine go_ret ?_ | refine next_ret ?_ | refine inb_ret ?_))
      exact ⟨by omega, by simp [hs, w2, hj1], trivial⟩
  · have hin : i = n := by omega
    subst hin
    (repeat (first
    | (apply is_ok; (case hw => simp [w1, hlt]); (case he => simp [w1, hlt]; exact is_rfl))
    | (apply op_no; (case hw => simp [w1, hlt]))
    | refine op_nil ?_ | refine next_normal ?_ | refine go_seq ?_ | refine go_region ?_ | refine go_skip ?_ | refine go_block ?_ | refine inb_normal ?_
    | (apply go_yes; (case hc => simp [w1, hlt])) | (apply go_no; (case hc => simp [w1, hlt]))
    | refine go_exit ?_ | refine next_exit ?_ | refine inb_here ?_ | refine inb_past (by decide) ?_ | refine go_ret ?_ | refine next_ret ?_ | refine inb_ret ?_))
    (apply ends_ok; (case h1 => simp; exact is_rfl); (case h2 => simp; exact is_rfl))
    simp
theorem FreeR_no (S : List (List UInt8)) (B : List Int) (hB : B.length ≤ maxLen) (h : (mapS S B).2 ≠ 0) : bodyW DC 22 [drv S B] [] = some (.tuple [.own 0 0 0 0, .int .i64 (mapS S B).2], [.dat true 1 []]) := by
  obtain ⟨a, b, hb, _⟩ := bitmap_eq S B hB
  generalize mapS S B = e at hb h
  (refine gives_iff ?_; refine go_func Try.f22 rfl rfl (by simp [Try.f22]) ?_; dsimp only [codeL, Try.f22, scL, sopsL, guardL, dstAt, loopKey])
  (repeat (first
    | (apply is_ok; (case hw => simp [hb, h]); (case he => simp [hb, h]; exact is_rfl))
    | (apply op_no; (case hw => simp [hb, h]))
    | refine op_nil ?_ | refine next_normal ?_ | refine go_seq ?_ | refine go_region ?_ | refine go_skip ?_ | refine go_block ?_ | refine inb_normal ?_
    | (apply go_yes; (case hc => simp [hb, h])) | (apply go_no; (case hc => simp [hb, h]))
    | refine go_exit ?_ | refine next_exit ?_ | refine inb_here ?_ | refine inb_past (by decide) ?_ | refine go_ret ?_ | refine next_ret ?_ | refine inb_ret ?_))
  (apply ends_ok; (case h1 => simp; exact is_rfl); (case h2 => simp; exact is_rfl))
  simp
end Go.Abs

namespace Go.Abs
open Go.Proofs
set_option maxRecDepth 100000
set_option linter.unusedSimpArgs false
set_option linter.unusedVariables false

def usedB (S : List (List UInt8)) (B : List Int) (n : Int) : Bool := decide ((mapS S B).2 = 0) && (decide (0 ≤ n ∧ n < S.length) && bitB (mapS S B).1 n.toNat)

theorem Used_eq (S : List (List UInt8)) (B : List Int) (hB : B.length ≤ maxLen) (n : Int) : bodyW DC 26 [drv S B, .int .i64 n] [] = some (.bool (usedB S B n), []) := by
  unfold usedB
  by_cases h : (mapS S B).2 = 0
  case neg =>
    have hb := bits_no S B hB h
    generalize mapS S B = e at hb h
    (refine gives_iff ?_; refine go_func Try.f26 rfl rfl (by simp [Try.f26]) ?_; dsimp only [codeL, Try.f26, scL, sopsL, guardL, dstAt, loopKey])
    (repeat (first
    | (apply is_ok; (case hw => simp [hb, h]); (case he => simp [hb, h]; exact is_rfl))
    | (apply op_no; (case hw => simp [hb, h]))
    | refine op_nil ?_ | refine next_normal ?_ | refine go_seq ?_ | refine go_region ?_ | refine go_skip ?_ | refine go_block ?_ | refine inb_normal ?_
    | (apply go_yes; (case hc => simp [hb, h])) | (apply go_no; (case hc => simp [hb, h]))
    | refine go_exit ?_ | refine next_exit ?_ | refine inb_here ?_ | refine inb_past (by decide) ?_ | refine go_ret ?_ | refine next_ret ?_ | refine inb_ret ?_))
    (apply ends_ok; (case h1 => simp; exact is_rfl); (case h2 => simp; exact is_rfl))
    simp [h]
  have hb := bits_ok S B hB h
  obtain ⟨hv, hl⟩ := map_ok h
  have hv2 := vol_bounds hv
  generalize hm : mapS S B = e at hb h hl
  have hu : (u8s e.1).length = 128 := by simp [hl]
  by_cases h1 : 0 ≤ n
  case neg =>
    (refine gives_iff ?_; refine go_func Try.f26 rfl rfl (by simp [Try.f26]) ?_; dsimp only [codeL, Try.f26, scL, sopsL, guardL, dstAt, loopKey])
    (repeat (first
    | (apply is_ok; (case hw => simp [hb, h1]); (case he => simp [hb, h1]; exact is_rfl))
    | (apply op_no; (case hw => simp [hb, h1]))
    | refine op_nil ?_ | refine next_normal ?_ | refine go_seq ?_ | refine go_region ?_ | refine go_skip ?_ | refine go_block ?_ | refine inb_normal ?_
    | (apply go_yes; (case hc => simp [hb, h1])) | (apply go_no; (case hc => simp [hb, h1]))
    | refine go_exit ?_ | refine next_exit ?_ | refine inb_here ?_ | refine inb_past (by decide) ?_ | refine go_ret ?_ | refine next_ret ?_ | refine inb_ret ?_))
    (apply ends_ok; (case h1 => simp; exact is_rfl); (case h2 => simp; exact is_rfl))
    simp [h, h1]
  by_cases h2 : n < S.length
  case neg =>
    (refine gives_iff ?_; refine go_func Try.f26 rfl rfl (by simp [Try.f26]) ?_; dsimp only [codeL, Try.f26, scL, sopsL, guardL, dstAt, loopKey])
    (repeat (first
    | (apply is_ok; (case hw => simp [hb, h1, h2]); (case he => simp [hb, h1, h2]; exact is_rfl))
    | (apply op_no; (case hw => simp [hb, h1, h2]))
    | refine op_nil ?_ | refine next_normal ?_ | refine go_seq ?_ | refine go_region ?_ | refine go_skip ?_ | refine go_block ?_ | refine inb_normal ?_
    | (apply go_yes; (case hc => simp [hb, h1, h2])) | (apply go_no; (case hc => simp [hb, h1, h2]))
    | refine go_exit ?_ | refine next_exit ?_ | refine inb_here ?_ | refine inb_past (by decide) ?_ | refine go_ret ?_ | refine next_ret ?_ | refine inb_ret ?_))
    (apply ends_ok; (case h1 => simp; exact is_rfl); (case h2 => simp; exact is_rfl))
    simp [h, h1, h2]
  obtain ⟨m, rfl⟩ : ∃ m : Nat, n = m := ⟨n.toNat, by omega⟩
  have hs := set_eq e.1 m (by omega) (by omega)
  have h2' : m < S.length := by omega
  (refine gives_iff ?_; refine go_func Try.f26 rfl rfl (by simp [Try.f26]) ?_; dsimp only [codeL, Try.f26, scL, sopsL, guardL, dstAt, loopKey])
  (repeat (first
    | (apply is_ok; (case hw => simp [hb, h1, h2, h2', hu, hs]); (case he => simp [hb, h1, h2, h2', hu, hs]; exact is_rfl))
    | (apply op_no; (case hw => simp [hb, h1, h2, h2', hu, hs]))
    | refine op_nil ?_ | refine next_normal ?_ | refine go_seq ?_ | refine go_region ?_ | refine go_skip ?_ | refine go_block ?_ | refine inb_normal ?_
    | (apply go_yes; (case hc => simp [hb, h1, h2, h2', hu, hs])) | (apply go_no; (case hc => simp [hb, h1, h2, h2', hu, hs]))
    | refine go_exit ?_ | refine next_exit ?_ | refine inb_here ?_ | refine inb_past (by decide) ?_ | refine go_ret ?_ | refine next_ret ?_ | refine inb_ret ?_))
  (apply ends_ok; (case h1 => simp; exact is_rfl); (case h2 => simp; exact is_rfl))
  simp [h, h2']

theorem UsedR_eq (S : List (List UInt8)) (B : List Int) (hB : B.length ≤ maxLen) (n : Int) : bodyW DC 27 [drv S B, .int .i64 n] [] = some (.bool (usedB S B n), []) := by
  unfold usedB
  obtain ⟨a, b, hb, _⟩ := bitmap_eq S B hB
  by_cases h : (mapS S B).2 = 0
  case neg =>
    generalize mapS S B = e at hb h
    (refine gives_iff ?_; refine go_func Try.f27 rfl rfl (by simp [Try.f27]) ?_; dsimp only [codeL, Try.f27, scL, sopsL, guardL, dstAt, loopKey])
    (repeat (first
    | (apply is_ok; (case hw => simp [hb, h]); (case he => simp [hb, h]; exact is_rfl))
    | (apply op_no; (case hw => simp [hb, h]))
    | refine op_nil ?_ | refine next_normal ?_ | refine go_seq ?_ | refine go_region ?_ | refine go_skip ?_ | refine go_block ?_ | refine inb_normal ?_
    | (apply go_yes; (case hc => simp [hb, h])) | (apply go_no; (case hc => simp [hb, h]))
    | refine go_exit ?_ | refine next_exit ?_ | refine inb_here ?_ | refine inb_past (by decide) ?_ | refine go_ret ?_ | refine next_ret ?_ | refine inb_ret ?_))
    (apply ends_ok; (case h1 => simp; exact is_rfl); (case h2 => simp; exact is_rfl))
    simp [h]
  obtain ⟨hv, hl⟩ := map_ok h
  have hv2 := vol_bounds hv
  generalize hm : mapS S B = e at hb h hl
  by_cases h1 : 0 ≤ n
  case neg =>
    (refine gives_iff ?_; refine go_func Try.f27 rfl rfl (by simp [Try.f27]) ?_; dsimp only [codeL, Try.f27, scL, sopsL, guardL, dstAt, loopKey])
    (repeat (first
    | (apply is_ok; (case hw => simp [hb, h, h1]); (case he => simp [hb, h, h1]; exact is_rfl))
    | (apply op_no; (case hw => simp [hb, h, h1]))
    | refine op_nil ?_ | refine next_normal ?_ | refine go_seq ?_ | refine go_region ?_ | refine go_skip ?_ | refine go_block ?_ | refine inb_normal ?_
    | (apply go_yes; (case hc => simp [hb, h, h1])) | (apply go_no; (case hc => simp [hb, h, h1]))
    | refine go_exit ?_ | refine next_exit ?_ | refine inb_here ?_ | refine inb_past (by decide) ?_ | refine go_ret ?_ | refine next_ret ?_ | refine inb_ret ?_))
    (apply ends_ok; (case h1 => simp; exact is_rfl); (case h2 => simp; exact is_rfl))
    simp [h, h1]
  by_cases h2 : n < S.length
  case neg =>
    (refine gives_iff ?_; refine go_func Try.f27 rfl rfl (by simp [Try.f27]) ?_; dsimp only [codeL, Try.f27, scL, sopsL, guardL, dstAt, loopKey])
    (repeat (first
    | (apply is_ok; (case hw => simp [hb, h, h1, h2]); (case he => simp [hb, h, h1, h2]; exact is_rfl))
    | (apply op_no; (case hw => simp [hb, h, h1, h2]))
    | refine op_nil ?_ | refine next_normal ?_ | refine go_seq ?_ | refine go_region ?_ | refine go_skip ?_ | refine go_block ?_ | refine inb_normal ?_
    | (apply go_yes; (case hc => simp [hb, h, h1, h2])) | (apply go_no; (case hc => simp [hb, h, h1, h2]))
    | refine go_exit ?_ | refine next_exit ?_ | refine inb_here ?_ | refine inb_past (by decide) ?_ | refine go_ret ?_ | refine next_ret ?_ | refine inb_ret ?_))
    (apply ends_ok; (case h1 => simp; exact is_rfl); (case h2 => simp; exact is_rfl))
    simp [h, h1, h2]
  obtain ⟨m, rfl⟩ : ∃ m : Nat, n = m := ⟨n.toNat, by omega⟩
  have hs := bit_eq e.1 m (by omega) (by omega)
  have h2' : m < S.length := by omega
  (refine gives_iff ?_; refine go_func Try.f27 rfl rfl (by simp [Try.f27]) ?_; dsimp only [codeL, Try.f27, scL, sopsL, guardL, dstAt, loopKey])
  (repeat (first
    | (apply is_ok; (case hw => simp [hb, h, h1, h2, h2', hs]); (case he => simp [hb, h, h1, h2, h2', hs]; exact is_rfl))
    | (apply op_no; (case hw => simp [hb, h, h1, h2, h2', hs]))
    | refine op_nil ?_ | refine next_normal ?_ | refine go_seq ?_ | refine go_region ?_ | refine go_skip ?_ | refine go_block ?_ | refine inb_normal ?_
    | (apply go_yes; (case hc => simp [hb, h, h1, h2, h2', hs])) | (apply go_no; (case hc => simp [hb, h, h1, h2, h2', hs]))
    | refine go_exit ?_ | refine next_exit ?_ | refine inb_here ?_ | refine inb_past (by decide) ?_ | refine go_ret ?_ | refine next_ret ?_ | refine inb_ret ?_))
  (apply ends_ok; (case h1 => simp; exact is_rfl); (case h2 => simp; exact is_rfl))
  simp [h, h2']

theorem Same_refl (l : List Int) (hl : l.length ≤ 1000000) : bodyW DC 25 [.sl (ints l), .sl (ints l)] [] = some (.bool true, []) := by
  (refine gives_iff ?_; refine go_func Try.f25 rfl rfl (by simp [Try.f25]) ?_; dsimp only [codeL, Try.f25, scL, sopsL, guardL, dstAt, loopKey])
  (repeat (first
    | (apply is_ok; (case hw => simp); (case he => simp; exact is_rfl))
    | (apply op_no; (case hw => simp))
    | refine op_nil ?_ | refine next_normal ?_ | refine go_seq ?_ | refine go_region ?_ | refine go_skip ?_ | refine go_block ?_ | refine inb_normal ?_
    | (apply go_yes; (case hc => simp)) | (apply go_no; (case hc => simp))
    | refine go_exit ?_ | refine next_exit ?_ | refine inb_here ?_ | refine inb_past (by decide) ?_ | refine go_ret ?_ | refine next_ret ?_ | refine inb_ret ?_))
  refine go_count l.length (fun i => [(0, .sl (ints l)), (1, .sl (ints l)), (5, .int .i64 i)]) (fun _ => []) (fun _ => True) (by simp) trivial fun i hi _ => ?_
  by_cases hlt : i < l.length
  · have hw : IntKind.i64.wrap ((i : Int) + 1) = (i : Int) + 1 := wrap_id (by omega) (by omega)
    (repeat (first
    | (apply is_ok; (case hw => simp [hlt]); (case he => simp [hlt]; exact is_rfl))
    | (apply op_no; (case hw => simp [hlt]))
    | refine op_nil ?_ | refine next_normal ?_ | refine go_seq ?_ | refine go_region ?_ | refine go_skip ?_ | refine go_block ?_ | refine inb_normal ?_
    | (apply go_yes; (case hc => simp [hlt])) | (apply go_no; (case hc => simp [hlt]))
    | refine go_exit ?_ | refine next_exit ?_ | refine inb_here ?_ | refine inb_past (by decide) ?_ | refine go_ret ?_ | refine next_ret ?_ | refine inb_ret ?_))
    exact ⟨hlt, by simp [hw], trivial⟩
  · (repeat (first
    | (apply is_ok; (case hw => simp [hlt]); (case he => simp [hlt]; exact is_rfl))
    | (apply op_no; (case hw => simp [hlt]))
    | refine op_nil ?_ | refine next_normal ?_ | refine go_seq ?_ | refine go_region ?_ | refine go_skip ?_ | refine go_block ?_ | refine inb_normal ?_
    | (apply go_yes; (case hc => simp [hlt])) | (apply go_no; (case hc => simp [hlt]))
    | refine go_exit ?_ | refine next_exit ?_ | refine inb_here ?_ | refine inb_past (by decide) ?_ | refine go_ret ?_ | refine next_ret ?_ | refine inb_ret ?_))
    (apply ends_ok; (case h1 => simp; exact is_rfl); (case h2 => simp; exact is_rfl))
    simp

def kindV : V → Int
  | .agg (.int _ k :: _) => k
  | _ => 0
/-- The first free inode from n on. -/
def allocF (S : List (List UInt8)) (B : List Int) : Nat → Nat → Int × Int
  | 0, _ => (0, 12)
  | f + 1, n => if getE S B n ≠ 0 then (0, getE S B n) else if kindV (getV S B n) = 0 then (n, 0) else allocF S B f (n + 1)

theorem Alloc_eq (S : List (List UInt8)) (B : List Int) (hB : B.length ≤ maxLen) : bodyW DC 23 [drv S B] [] = some (.tuple [.int .i64 (allocF S B 31 1).1, .int .i64 (allocF S B 31 1).2], []) := by
  generalize hR : allocF S B 31 1 = R
  (refine gives_iff ?_; refine go_func Try.f23 rfl rfl (by simp [Try.f23]) ?_; dsimp only [codeL, Try.f23, scL, sopsL, guardL, dstAt, loopKey])
  (repeat (first
    | (apply is_ok; (case hw => simp); (case he => simp; exact is_rfl))
    | (apply op_no; (case hw => simp))
    | refine op_nil ?_ | refine next_normal ?_ | refine go_seq ?_ | refine go_region ?_ | refine go_skip ?_ | refine go_block ?_ | refine inb_normal ?_
    | (apply go_yes; (case hc => simp)) | (apply go_no; (case hc => simp))
    | refine go_exit ?_ | refine next_exit ?_ | refine inb_here ?_ | refine inb_past (by decide) ?_ | refine go_ret ?_ | refine next_ret ?_ | refine inb_ret ?_))
  refine go_count 31 (fun i => [(1, .ptr 0 1 0 0), (4, .int .i64 ((i + 1 : Nat) : Int))]) (fun _ => [.box (drv S B)]) (fun i => allocF S B (31 - i) (i + 1) = R) (by simp) hR fun i hi hI => ?_
  generalize hj : i + 1 = j at hI
  have hw : IntKind.i64.wrap ((j : Int) + 1) = ((j + 1 : Nat) : Int) := wrap_id (by omega) (by omega)
  by_cases hlt : j < 32
  · have hlt' : (j : Int) < 32 := by omega
    have hf : 31 - i = (31 - (i + 1)) + 1 := by omega
    rw [hf, allocF] at hI
    have hG := Get38_eq S B hB j
    obtain ⟨k, l, z, a, b, c, d, e, f, g, h, hsh, _⟩ := getV_shape S B j
    have hkv : kindV (getV S B j) = k := by rw [hsh]; rfl
    rw [hsh] at hG
    by_cases he : getE S B j = 0
    · rw [if_neg (by simpa using he)] at hI
      rw [he] at hG
      by_cases hk : k = 0
      · rw [if_pos (by rw [hkv]; exact hk)] at hI
        (repeat (first
    | (apply is_ok; (case hw => simp [hlt, hlt', hG, hk]); (case he => simp [hlt, hlt', hG, hk]; exact is_rfl))
    | (apply op_no; (case hw => simp [hlt, hlt', hG, hk]))
    | refine op_nil ?_ | refine next_normal ?_ | refine go_seq ?_ | refine go_region ?_ | refine go_skip ?_ | refine go_block ?_ | refine inb_normal ?_
    | (apply go_yes; (case hc => simp [hlt, hlt', hG, hk])) | (apply go_no; (case hc => simp [hlt, hlt', hG, hk]))
    | refine go_exit ?_ | refine next_exit ?_ | refine inb_here ?_ | refine inb_past (by decide) ?_ | refine go_ret ?_ | refine next_ret ?_ | refine inb_ret ?_))
        (apply ends_ok; (case h1 => simp; exact is_rfl); (case h2 => simp; exact is_rfl))
        simp [← hI]
      · rw [if_neg (by rw [hkv]; exact hk)] at hI
        (repeat (first
    | (apply is_ok; (case hw => simp [hlt, hlt', hG, hk]); (case he => simp [hlt, hlt', hG, hk]; exact is_rfl))
    | (apply op_no; (case hw => simp [hlt, hlt', hG, hk]))
    | refine op_nil ?_ | refine next_normal ?_ | refine go_seq ?_ | refine go_region ?_ | refine go_skip ?_ | refine go_block ?_ | refine inb_normal ?_
    | (apply go_yes; (case hc => simp [hlt, hlt', hG, hk])) | (apply go_no; (case hc => simp [hlt, hlt', hG, hk]))
    | refine go_exit ?_ | refine next_exit ?_ | refine inb_here ?_ | refine inb_past (by decide) ?_ | refine go_ret ?_ | refine next_ret ?_ | refine inb_ret ?_))
        exact ⟨by omega, by simp [hw, hj], by rw [hj] at hI; exact hI⟩
    · rw [if_pos he] at hI
      (repeat (first
    | (apply is_ok; (case hw => simp [hlt, hlt', hG, he]); (case he => simp [hlt, hlt', hG, he]; exact is_rfl))
    | (apply op_no; (case hw => simp [hlt, hlt', hG, he]))
    | refine op_nil ?_ | refine next_normal ?_ | refine go_seq ?_ | refine go_region ?_ | refine go_skip ?_ | refine go_block ?_ | refine inb_normal ?_
    | (apply go_yes; (case hc => simp [hlt, hlt', hG, he])) | (apply go_no; (case hc => simp [hlt, hlt', hG, he]))
    | refine go_exit ?_ | refine next_exit ?_ | refine inb_here ?_ | refine inb_past (by decide) ?_ | refine go_ret ?_ | refine next_ret ?_ | refine inb_ret ?_))
      (apply ends_ok; (case h1 => simp; exact is_rfl); (case h2 => simp; exact is_rfl))
      simp [← hI]
  · have hlt' : ¬ (j : Int) < 32 := by omega
    have hz : 31 - i = 0 := by omega
    rw [hz, allocF] at hI
    (repeat (first
    | (apply is_ok; (case hw => simp [hlt, hlt']); (case he => simp [hlt, hlt']; exact is_rfl))
    | (apply op_no; (case hw => simp [hlt, hlt']))
    | refine op_nil ?_ | refine next_normal ?_ | refine go_seq ?_ | refine go_region ?_ | refine go_skip ?_ | refine go_block ?_ | refine inb_normal ?_
    | (apply go_yes; (case hc => simp [hlt, hlt'])) | (apply go_no; (case hc => simp [hlt, hlt']))
    | refine go_exit ?_ | refine next_exit ?_ | refine inb_here ?_ | refine inb_past (by decide) ?_ | refine go_ret ?_ | refine next_ret ?_ | refine inb_ret ?_))
    (apply ends_ok; (case h1 => simp; exact is_rfl); (case h2 => simp; exact is_rfl))
    simp [← hI]
theorem AllocR_eq (S : List (List UInt8)) (B : List Int) (hB : B.length ≤ maxLen) : bodyW DC 24 [drv S B] [] = some (.tuple [.int .i64 (allocF S B 31 1).1, .int .i64 (allocF S B 31 1).2], []) := by
  generalize hR : allocF S B 31 1 = R
  (refine gives_iff ?_; refine go_func Try.f24 rfl rfl (by simp [Try.f24]) ?_; dsimp only [codeL, Try.f24, scL, sopsL, guardL, dstAt, loopKey])
  (repeat (first
    | (apply is_ok; (case hw => simp); (case he => simp; exact is_rfl))
    | (apply op_no; (case hw => simp))
    | refine op_nil ?_ | refine next_normal ?_ | refine go_seq ?_ | refine go_region ?_ | refine go_skip ?_ | refine go_block ?_ | refine inb_normal ?_
    | (apply go_yes; (case hc => simp)) | (apply go_no; (case hc => simp))
    | refine go_exit ?_ | refine next_exit ?_ | refine inb_here ?_ | refine inb_past (by decide) ?_ | refine go_ret ?_ | refine next_ret ?_ | refine inb_ret ?_))
  refine go_count 31 (fun i => [(1, .ptr 0 1 0 0), (4, .int .i64 ((i + 1 : Nat) : Int))]) (fun _ => [.box (drv S B)]) (fun i => allocF S B (31 - i) (i + 1) = R) (by simp) hR fun i hi hI => ?_
  generalize hj : i + 1 = j at hI
  have hw : IntKind.i64.wrap ((j : Int) + 1) = ((j + 1 : Nat) : Int) := wrap_id (by omega) (by omega)
  by_cases hlt : j < 32
  · have hlt' : (j : Int) < 32 := by omega
    have hf : 31 - i = (31 - (i + 1)) + 1 := by omega
    rw [hf, allocF] at hI
    have hG := Get38R_eq S B hB j
    obtain ⟨k, l, z, a, b, c, d, e, f, g, h, hsh, _⟩ := getV_shape S B j
    have hkv : kindV (getV S B j) = k := by rw [hsh]; rfl
    rw [hsh] at hG
    by_cases he : getE S B j = 0
    · rw [if_neg (by simpa using he)] at hI
      rw [he] at hG
      by_cases hk : k = 0
      · rw [if_pos (by rw [hkv]; exact hk)] at hI
        (repeat (first
    | (apply is_ok; (case hw => simp [hlt, hlt', hG, hk]); (case he => simp [hlt, hlt', hG, hk]; exact is_rfl))
    | (apply op_no; (case hw => simp [hlt, hlt', hG, hk]))
    | refine op_nil ?_ | refine next_normal ?_ | refine go_seq ?_ | refine go_region ?_ | refine go_skip ?_ | refine go_block ?_ | refine inb_normal ?_
    | (apply go_yes; (case hc => simp [hlt, hlt', hG, hk])) | (apply go_no; (case hc => simp [hlt, hlt', hG, hk]))
    | refine go_exit ?_ | refine next_exit ?_ | refine inb_here ?_ | refine inb_past (by decide) ?_ | refine go_ret ?_ | refine next_ret ?_ | refine inb_ret ?_))
        (apply ends_ok; (case h1 => simp; exact is_rfl); (case h2 => simp; exact is_rfl))
        simp [← hI]
      · rw [if_neg (by rw [hkv]; exact hk)] at hI
        (repeat (first
    | (apply is_ok; (case hw => simp [hlt, hlt', hG, hk]); (case he => simp [hlt, hlt', hG, hk]; exact is_rfl))
    | (apply op_no; (case hw => simp [hlt, hlt', hG, hk]))
    | refine op_nil ?_ | refine next_normal ?_ | refine go_seq ?_ | refine go_region ?_ | refine go_skip ?_ | refine go_block ?_ | refine inb_normal ?_
    | (apply go_yes; (case hc => simp [hlt, hlt', hG, hk])) | (apply go_no; (case hc => simp [hlt, hlt', hG, hk]))
    | refine go_exit ?_ | refine next_exit ?_ | refine inb_here ?_ | refine inb_past (by decide) ?_ | refine go_ret ?_ | refine next_ret ?_ | refine inb_ret ?_))
        exact ⟨by omega, by simp [hw, hj], by rw [hj] at hI; exact hI⟩
    · rw [if_pos he] at hI
      (repeat (first
    | (apply is_ok; (case hw => simp [hlt, hlt', hG, he]); (case he => simp [hlt, hlt', hG, he]; exact is_rfl))
    | (apply op_no; (case hw => simp [hlt, hlt', hG, he]))
    | refine op_nil ?_ | refine next_normal ?_ | refine go_seq ?_ | refine go_region ?_ | refine go_skip ?_ | refine go_block ?_ | refine inb_normal ?_
    | (apply go_yes; (case hc => simp [hlt, hlt', hG, he])) | (apply go_no; (case hc => simp [hlt, hlt', hG, he]))
    | refine go_exit ?_ | refine next_exit ?_ | refine inb_here ?_ | refine inb_past (by decide) ?_ | refine go_ret ?_ | refine next_ret ?_ | refine inb_ret ?_))
      (apply ends_ok; (case h1 => simp; exact is_rfl); (case h2 => simp; exact is_rfl))
      simp [← hI]
  · have hlt' : ¬ (j : Int) < 32 := by omega
    have hz : 31 - i = 0 := by omega
    rw [hz, allocF] at hI
    (repeat (first
    | (apply is_ok; (case hw => simp [hlt, hlt']); (case he => simp [hlt, hlt']; exact is_rfl))
    | (apply op_no; (case hw => simp [hlt, hlt']))
    | refine op_nil ?_ | refine next_normal ?_ | refine go_seq ?_ | refine go_region ?_ | refine go_skip ?_ | refine go_block ?_ | refine inb_normal ?_
    | (apply go_yes; (case hc => simp [hlt, hlt'])) | (apply go_no; (case hc => simp [hlt, hlt']))
    | refine go_exit ?_ | refine next_exit ?_ | refine inb_here ?_ | refine inb_past (by decide) ?_ | refine go_ret ?_ | refine next_ret ?_ | refine inb_ret ?_))
    (apply ends_ok; (case h1 => simp; exact is_rfl); (case h2 => simp; exact is_rfl))
    simp [← hI]

theorem InodeFrees_eq (S : List (List UInt8)) (B : List Int) (hS : S.length ≤ maxLen) (hB : B.length ≤ maxLen) (n : Int) : bodyW DC 5 [drv S B, .int .i64 n] [] = some (.bool true, []) := by
  have hM := small38_eq S B hS
  by_cases hs : SmallD S B
  case neg =>
    (refine gives_iff ?_; refine go_func Try.f5 rfl rfl (by simp [Try.f5]) ?_; dsimp only [codeL, Try.f5, scL, sopsL, guardL, dstAt, loopKey])
    (repeat (first
    | (apply is_ok; (case hw => simp [hM, hs]); (case he => simp [hM, hs]; exact is_rfl))
    | (apply op_no; (case hw => simp [hM, hs]))
    | refine op_nil ?_ | refine next_normal ?_ | refine go_seq ?_ | refine go_region ?_ | refine go_skip ?_ | refine go_block ?_ | refine inb_normal ?_
    | (apply go_yes; (case hc => simp [hM, hs])) | (apply go_no; (case hc => simp [hM, hs]))
    | refine go_exit ?_ | refine next_exit ?_ | refine inb_here ?_ | refine inb_past (by decide) ?_ | refine go_ret ?_ | refine next_ret ?_ | refine inb_ret ?_))
    (apply ends_ok; (case h1 => simp; exact is_rfl); (case h2 => simp; exact is_rfl))
    simp
  have hU := Used_eq S B hB n
  have hU' := UsedR_eq S B hB n
  have hA := Alloc_eq S B hB
  have hA' := AllocR_eq S B hB
  have hL := alive38_eq
  generalize usedB S B n = u at hU hU'
  generalize allocF S B 31 1 = a at hA hA'
  by_cases h : (mapS S B).2 = 0
  · have hF := Free_ok S B hB h
    have hF' := FreeR_ok S B hB h
    have hn := freeL_length (mapS S B).1 (freeN S)
    have hn2 := (freeN_eq (map_ok h).1).2
    have hE := Same_refl (freeL (mapS S B).1 (freeN S)) (by omega)
    generalize freeL (mapS S B).1 (freeN S) = l at hF hF' hE
    (refine gives_iff ?_; refine go_func Try.f5 rfl rfl (by simp [Try.f5]) ?_; dsimp only [codeL, Try.f5, scL, sopsL, guardL, dstAt, loopKey])
    (repeat (first
    | (apply is_ok; (case hw => simp [hM, hs, hF, hF', hE, hU, hU', hA, hA', hL]); (case he => simp [hM, hs, hF, hF', hE, hU, hU', hA, hA', hL]; exact is_rfl))
    | (apply op_no; (case hw => simp [hM, hs, hF, hF', hE, hU, hU', hA, hA', hL]))
    | refine op_nil ?_ | refine next_normal ?_ | refine go_seq ?_ | refine go_region ?_ | refine go_skip ?_ | refine go_block ?_ | refine inb_normal ?_
    | (apply go_yes; (case hc => simp [hM, hs, hF, hF', hE, hU, hU', hA, hA', hL])) | (apply go_no; (case hc => simp [hM, hs, hF, hF', hE, hU, hU', hA, hA', hL]))
    | refine go_exit ?_ | refine next_exit ?_ | refine inb_here ?_ | refine inb_past (by decide) ?_ | refine go_ret ?_ | refine next_ret ?_ | refine inb_ret ?_))
    (apply ends_ok; (case h1 => simp; exact is_rfl); (case h2 => simp; exact is_rfl))
    simp
  · have hF := Free_no S B hB h
    have hF' := FreeR_no S B hB h
    have hE := Same_refl [] (by simp)
    simp only [ints, List.map_nil] at hE
    generalize (mapS S B).2 = e at hF hF'
    (refine gives_iff ?_; refine go_func Try.f5 rfl rfl (by simp [Try.f5]) ?_; dsimp only [codeL, Try.f5, scL, sopsL, guardL, dstAt, loopKey])
    (repeat (first
    | (apply is_ok; (case hw => simp [hM, hs, hF, hF', hE, hU, hU', hA, hA', hL]); (case he => simp [hM, hs, hF, hF', hE, hU, hU', hA, hA', hL]; exact is_rfl))
    | (apply op_no; (case hw => simp [hM, hs, hF, hF', hE, hU, hU', hA, hA', hL]))
    | refine op_nil ?_ | refine next_normal ?_ | refine go_seq ?_ | refine go_region ?_ | refine go_skip ?_ | refine go_block ?_ | refine inb_normal ?_
    | (apply go_yes; (case hc => simp [hM, hs, hF, hF', hE, hU, hU', hA, hA', hL])) | (apply go_no; (case hc => simp [hM, hs, hF, hF', hE, hU, hU', hA, hA', hL]))
    | refine go_exit ?_ | refine next_exit ?_ | refine inb_here ?_ | refine inb_past (by decide) ?_ | refine go_ret ?_ | refine next_ret ?_ | refine inb_ret ?_))
    (apply ends_ok; (case h1 => simp; exact is_rfl); (case h2 => simp; exact is_rfl))
    simp
end Go.Abs

