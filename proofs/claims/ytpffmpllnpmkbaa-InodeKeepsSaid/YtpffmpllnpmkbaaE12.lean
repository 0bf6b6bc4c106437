/- Proved here: what functions of the program compute, over the evaluator. No condition but those that each theorem states. -/
import Derived.Test.YtpffmpllnpmkbaaE11
import Derived.Test.YtpffmpllnpmkbaaD12
namespace Go.Abs
open Go.Proofs
set_option maxRecDepth 100000
set_option linter.unusedSimpArgs false
set_option linter.unusedVariables false

theorem Get38R_eq (S : List (List UInt8)) (B : List Int) (hB : B.length ≤ maxLen) (n : Int) : bodyW DC 18 [drv S B, .int .i64 n] [] = some (.tuple [getV S B n, .int .i64 (getE S B n)], []) := by
  obtain ⟨p, hS, hp⟩ := sectorR_eq S B hB n
  unfold getV getE
  by_cases he : (secS S B n).2 = 0
  case neg =>
    rw [if_neg he, if_neg he]
    clear hp
    generalize secS S B n = q at hS he
    (refine gives_iff ?_; refine go_func Try.f18 rfl rfl (by simp [Try.f18]) ?_; dsimp only [codeL, Try.f18, scL, sopsL, guardL, dstAt, loopKey])
    (repeat (first
    | (apply is_ok; (case hw => simp [hS, he]); (case he => simp [hS, he]; exact is_rfl))
    | (apply op_no; (case hw => simp [hS, he]))
    | refine op_nil ?_ | refine next_normal ?_ | refine go_seq ?_ | refine go_region ?_ | refine go_skip ?_ | refine go_block ?_ | refine inb_normal ?_
    | (apply go_yes; (case hc => simp [hS, he])) | (apply go_no; (case hc => simp [hS, he]))
    | refine go_exit ?_ | refine next_exit ?_ | refine inb_here ?_ | refine inb_past (by decide) ?_ | refine go_ret ?_ | refine next_ret ?_ | refine inb_ret ?_))
    (apply ends_ok; (case h1 => simp; exact is_rfl); (case h2 => simp; exact is_rfl))
    simp
  obtain ⟨hv, h1, h2, hl⟩ := sec_ok he
  rw [if_pos he, if_pos he]
  have hP := ParseR_eq (inoS S B n)
  obtain ⟨k, l, z, a, b, c, d, e, f, g, h, hsh, _⟩ := parseV_shape (inoS S B n)
  rw [hsh] at hP ⊢
  generalize parseE (inoS S B n) = ee at hP ⊢
  unfold inoS at hP
  rw [he] at hS
  generalize (secS S B n).1 = s at hS hl hP
  clear hp
  obtain ⟨m, rfl⟩ : ∃ m : Nat, n = m := ⟨n.toNat, by omega⟩
  have f1 : (m : Int).tmod 4 = ((m % 4 : Nat) : Int) := by rw [Int.tmod_eq_emod_of_nonneg (by omega)]; rfl
  have hr : m % 4 < 4 := Nat.mod_lt _ (by omega)
  rw [Int.toNat_natCast] at hP
  generalize m % 4 = r at f1 hr hP
  have f2 : IntKind.i64.wrap ((r : Int) * 32) = ((r * 32 : Nat) : Int) := by rw [wrap_id (by omega) (by omega)]; omega
  generalize ha : r * 32 = t at f2 hP
  have f3 : IntKind.i64.wrap ((t : Int) + 32) = ((t + 32 : Nat) : Int) := wrap_id (by omega) (by omega)
  have g6 : (s.take (t + 32)).drop t = (s.drop t).take 32 := by rw [List.drop_take]; congr 1; omega
  rw [← g6] at hP
  generalize hu : t + 32 = u at f3 hP
  have g1 : t ≤ u := by omega
  have g2 : u ≤ 128 := by omega
  have g3 : u ≤ s.length := by omega
  (refine gives_iff ?_; refine go_func Try.f18 rfl rfl (by simp [Try.f18]) ?_; dsimp only [codeL, Try.f18, scL, sopsL, guardL, dstAt, loopKey])
  (repeat (first
    | (apply is_ok; (case hw => simp [hS, f1, f2, f3, g1, g2, g3, hl, hP]); (case he => simp [hS, f1, f2, f3, g1, g2, g3, hl, hP]; exact is_rfl))
    | (apply op_no; (case hw => simp [hS, f1, f2, f3, g1, g2, g3, hl, hP]))
    | refine op_nil ?_ | refine next_normal ?_ | refine go_seq ?_ | refine go_region ?_ | refine go_skip ?_ | refine go_block ?_ | refine inb_normal ?_
    | (apply go_yes; (case hc => simp [hS, f1, f2, f3, g1, g2, g3, hl, hP])) | (apply go_no; (case hc => simp [hS, f1, f2, f3, g1, g2, g3, hl, hP]))
    | refine go_exit ?_ | refine next_exit ?_ | refine inb_here ?_ | refine inb_past (by decide) ?_ | refine go_ret ?_ | refine next_ret ?_ | refine inb_ret ?_))
  (apply ends_ok; (case h1 => simp; exact is_rfl); (case h2 => simp; exact is_rfl))
  simp

theorem bytesI_length {k l z : Int} {L : List Int} (hL : L.length = 8) : (bytesI k l z L).length = 32 := by
  match L, hL with
  | [a, b, c, d, e, f, g, h], _ => rfl

/-- What Put returns. -/
def putW (S : List (List UInt8)) (B : List Int) (n k l z : Int) (L : List Int) : (Int × List UInt8) × Int :=
  if (secS S B n).2 = 0 then if validI k l z L then ((19 + n / 4, (secS S B n).1.take (n.toNat % 4 * 32) ++ (bytesI k l z L ++ (secS S B n).1.drop (n.toNat % 4 * 32 + 32))), 0) else ((0, []), 1) else ((0, []), (secS S B n).2)

theorem Put38_eq (S : List (List UInt8)) (B : List Int) (hB : B.length ≤ maxLen) (n k l z : Int) (L : List Int) (hL : L.length = 8) (hX : In64 (k :: l :: z :: L)) : bodyW DC 19 [drv S B, .int .i64 n, inoV k l z L] [] = some (.tuple [wrV (putW S B n k l z L).1, .int .i64 (putW S B n k l z L).2], []) := by
  have hS := sector_eq S B hB n
  have hV := Valid_eq k l z L hL (fun x hx => hX x (by simp [hx]))
  have hBy := Bytes_eq k l z L hL hX
  have hbl := bytesI_length (k := k) (l := l) (z := z) hL
  unfold putW
  by_cases he : (secS S B n).2 = 0
  case neg =>
    rw [if_neg he]
    generalize secS S B n = q at hS he
    (refine gives_iff ?_; refine go_func Try.f19 rfl rfl (by simp [Try.f19]) ?_; dsimp only [codeL, Try.f19, scL, sopsL, guardL, dstAt, loopKey])
    (repeat (first
    | (apply is_ok; (case hw => simp [hL, hS, he]); (case he => simp [hL, hS, he]; exact is_rfl))
    | (apply op_no; (case hw => simp [hL, hS, he]))
    | refine op_nil ?_ | refine next_normal ?_ | refine go_seq ?_ | refine go_region ?_ | refine go_skip ?_ | refine go_block ?_ | refine inb_normal ?_
    | (apply go_yes; (case hc => simp [hL, hS, he])) | (apply go_no; (case hc => simp [hL, hS, he]))
    | refine go_exit ?_ | refine next_exit ?_ | refine inb_here ?_ | refine inb_past (by decide) ?_ | refine go_ret ?_ | refine next_ret ?_ | refine inb_ret ?_))
    (apply ends_ok; (case h1 => simp; exact is_rfl); (case h2 => simp; exact is_rfl))
    simp
  rw [if_pos he]
  obtain ⟨hv, h1, h2, hl⟩ := sec_ok he
  rw [he] at hS
  generalize (secS S B n).1 = s at hS hl
  by_cases hk : validI k l z L
  case neg =>
    rw [if_neg hk]
    (refine gives_iff ?_; refine go_func Try.f19 rfl rfl (by simp [Try.f19]) ?_; dsimp only [codeL, Try.f19, scL, sopsL, guardL, dstAt, loopKey])
    (repeat (first
    | (apply is_ok; (case hw => simp [hL, hS, hV, hk]); (case he => simp [hL, hS, hV, hk]; exact is_rfl))
    | (apply op_no; (case hw => simp [hL, hS, hV, hk]))
    | refine op_nil ?_ | refine next_normal ?_ | refine go_seq ?_ | refine go_region ?_ | refine go_skip ?_ | refine go_block ?_ | refine inb_normal ?_
    | (apply go_yes; (case hc => simp [hL, hS, hV, hk])) | (apply go_no; (case hc => simp [hL, hS, hV, hk]))
    | refine go_exit ?_ | refine next_exit ?_ | refine inb_here ?_ | refine inb_past (by decide) ?_ | refine go_ret ?_ | refine next_ret ?_ | refine inb_ret ?_))
    (apply ends_ok; (case h1 => simp; exact is_rfl); (case h2 => simp; exact is_rfl))
    simp
  rw [if_pos hk]
  rw [decide_eq_true hk] at hV
  generalize bytesI k l z L = bs at hBy hbl
  obtain ⟨m, rfl⟩ : ∃ m : Nat, n = m := ⟨n.toNat, by omega⟩
  have f1 : (m : Int).tmod 4 = ((m % 4 : Nat) : Int) := by rw [Int.tmod_eq_emod_of_nonneg (by omega)]; rfl
  have d1 : (m : Int).tdiv 4 = (m : Int) / 4 := Int.tdiv_eq_ediv_of_nonneg (by omega)
  have d2 : IntKind.i64.wrap ((m : Int) / 4) = (m : Int) / 4 := wrap_id (by omega) (by omega)
  have d3 : IntKind.i64.wrap (19 + (m : Int) / 4) = 19 + (m : Int) / 4 := wrap_id (by omega) (by omega)
  generalize (m : Int) / 4 = q at d1 d2 d3
  have hr : m % 4 < 4 := Nat.mod_lt _ (by omega)
  rw [Int.toNat_natCast]
  generalize m % 4 = r at f1 hr
  have f2 : IntKind.i64.wrap ((r : Int) * 32) = ((r * 32 : Nat) : Int) := by rw [wrap_id (by omega) (by omega)]; omega
  generalize ha : r * 32 = t at f2
  have f3 : IntKind.i64.wrap ((t : Int) + 32) = ((t + 32 : Nat) : Int) := wrap_id (by omega) (by omega)
  generalize hu : t + 32 = u at f3
  have g1 : t ≤ 128 := by omega
  have g2 : u ≤ 128 := by omega
  have g3 : s.take 128 = s := List.take_of_length_le (by omega)
  have g4 : min t 128 = t := by omega
  have r1 : t + 32 ≤ room := by unfold room; omega
  have r2 : t + 32 + (128 - u) ≤ room := by unfold room; omega
  have r3 : u ≤ room := by unfold room; omega
  have r4 : u + (128 - u) ≤ room := by unfold room; omega
  (refine gives_iff ?_; refine go_func Try.f19 rfl rfl (by simp [Try.f19]) ?_; dsimp only [codeL, Try.f19, scL, sopsL, guardL, dstAt, loopKey])
  (repeat (first
    | (apply is_ok; (case hw => simp [hL, hS, hV, hBy, hbl, hl, f1, f2, f3, d1, d2, d3, g1, g2, g3, g4, r1, r2, hu, r3, r4]); (case he => simp [hL, hS, hV, hBy, hbl, hl, f1, f2, f3, d1, d2, d3, g1, g2, g3, g4, r1, r2, hu, r3, r4]; exact is_rfl))
    | (apply op_no; (case hw => simp [hL, hS, hV, hBy, hbl, hl, f1, f2, f3, d1, d2, d3, g1, g2, g3, g4, r1, r2, hu, r3, r4]))
    | refine op_nil ?_ | refine next_normal ?_ | refine go_seq ?_ | refine go_region ?_ | refine go_skip ?_ | refine go_block ?_ | refine inb_normal ?_
    | (apply go_yes; (case hc => simp [hL, hS, hV, hBy, hbl, hl, f1, f2, f3, d1, d2, d3, g1, g2, g3, g4, r1, r2, hu, r3, r4])) | (apply go_no; (case hc => simp [hL, hS, hV, hBy, hbl, hl, f1, f2, f3, d1, d2, d3, g1, g2, g3, g4, r1, r2, hu, r3, r4]))
    | refine go_exit ?_ | refine next_exit ?_ | refine inb_here ?_ | refine inb_past (by decide) ?_ | refine go_ret ?_ | refine next_ret ?_ | refine inb_ret ?_))
  (apply ends_ok; (case h1 => simp; exact is_rfl); (case h2 => simp; exact is_rfl))
  simp
end Go.Abs
