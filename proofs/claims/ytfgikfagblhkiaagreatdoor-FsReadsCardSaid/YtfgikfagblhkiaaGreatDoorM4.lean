/- Proved here: what functions of the program compute, over the evaluator. No condition but those that each theorem states. -/
import Derived.Test.YtfgikfagblhkiaaGreatDoorM3
namespace Go.Abs
open Go.Proofs
set_option maxRecDepth 100000
set_option linter.unusedSimpArgs false
set_option linter.unusedVariables false

/-- The sectors read one after the other, up to the first that cannot be read. -/
def contR (S : List (List UInt8)) (B : List Int) : List Int → List UInt8 → List UInt8 × Int
  | [], b => (b, 0)
  | s :: r, b => if (readS S B s).2 = 0 then contR S B r (b ++ (readS S B s).1) else ([], (readS S B s).2)
def needN (z : Int) : Nat := ((z + 127) / 128).toNat
/-- The contents of an inode. -/
def contV (S : List (List UInt8)) (B : List Int) (L : List Int) (z : Int) : List UInt8 × Int := ((contR S B (L.take (needN z)) []).1.take z.toNat, (contR S B (L.take (needN z)) []).2)

theorem readS_len {S : List (List UInt8)} {B : List Int} (hR : RightP S B) {s : Int} (h : (readS S B s).2 = 0) : (readS S B s).1.length = 128 := by
  unfold readS at h ⊢
  by_cases h1 : 0 ≤ s ∧ s < S.length
  · rw [if_pos h1] at h ⊢
    by_cases h2 : s ∈ B
    · rw [if_pos h2] at h; cases h
    · rw [if_neg h2]
      have hl : s.toNat < S.length := by omega
      show (S.getD s.toNat []).length = 128
      rw [List.getD_eq_getElem?_getD, List.getElem?_eq_getElem hl]
      exact hR.2.2.1 _ (List.getElem_mem hl)
  · rw [if_neg h1] at h; cases h
theorem contR_err {S : List (List UInt8)} {B : List Int} : ∀ (L : List Int) (b : List UInt8), (contR S B L b).2 ≠ 0 → (contR S B L b).1 = []
  | [], b, h => absurd rfl h
  | s :: r, b, h => by
    rw [contR] at h ⊢
    by_cases h1 : (readS S B s).2 = 0
    · rw [if_pos h1] at h ⊢
      exact contR_err r _ h
    · rw [if_neg h1]
theorem need_le {z : Int} (h : 0 ≤ z ∧ z ≤ 1024) : needN z ≤ 8 ∧ z.toNat ≤ 128 * needN z := by
  unfold needN
  constructor <;> omega

theorem u8s_all1 (t : List UInt8) : ((u8s t).all fun e => decide (e.cells.length = 1)) = true := List.all_eq_true.2 fun x hx => by obtain ⟨y, _, rfl⟩ := List.mem_map.1 hx; rfl

theorem u8s_tk (t : List UInt8) (n : Nat) : (u8s t).take n = u8s (t.take n) := by simp [u8s, List.map_take]

theorem sectors_eq (n : Int) (h : 0 ≤ n ∧ n ≤ 1000000) : bodyW DC 115 [.int .i64 n] [] = some (.int .i64 (needN n), []) := by
  have w1 : IntKind.i64.wrap (n + 128) = n + 128 := wrap_id (by omega) (by omega)
  have w2 : IntKind.i64.wrap (n + 128 - 1) = n + 127 := by rw [wrap_id (by omega) (by omega)]; omega
  have q1 : (n + 127).tdiv 128 = ((needN n : Nat) : Int) := by unfold needN; rw [Int.tdiv_eq_ediv_of_nonneg (by omega)]; omega
  have w3 : IntKind.i64.wrap ((needN n : Nat) : Int) = ((needN n : Nat) : Int) := by unfold needN; exact wrap_id (by omega) (by omega)
  (refine gives_iff ?_; refine go_func Tryz.f115 rfl rfl (by simp [Tryz.f115]) ?_; dsimp only [codeL, Tryz.f115, scL, sopsL, guardL, dstAt, loopKey])
  (repeat (first
    | (apply is_ok; (case hw => simp [w1, w2, q1, w3]); (case he => simp [w1, w2, q1, w3]; exact is_rfl))
    | (apply op_no; (case hw => simp [w1, w2, q1, w3]))
    | refine op_nil ?_ | refine next_normal ?_ | refine go_seq ?_ | refine go_region ?_ | refine go_skip ?_ | refine go_block ?_ | refine inb_normal ?_
    | (apply go_yes; (case hc => simp [w1, w2, q1, w3])) | (apply go_no; (case hc => simp [w1, w2, q1, w3]))
    | refine go_exit ?_ | refine next_exit ?_ | refine inb_here ?_ | refine inb_past (by decide) ?_ | refine go_ret ?_ | refine next_ret ?_ | refine inb_ret ?_))
  (apply ends_ok; (case h1 => simp; exact is_rfl); (case h2 => simp; exact is_rfl))
  simp
theorem needed_eq (n : Int) (h : 0 ≤ n ∧ n ≤ 1000000) : bodyW DC 118 [.int .i64 n] [] = some (.int .i64 (needN n), []) := by
  have w1 : IntKind.i64.wrap (n + 128) = n + 128 := wrap_id (by omega) (by omega)
  have w2 : IntKind.i64.wrap (n + 128 - 1) = n + 127 := by rw [wrap_id (by omega) (by omega)]; omega
  have q1 : (n + 127).tdiv 128 = ((needN n : Nat) : Int) := by unfold needN; rw [Int.tdiv_eq_ediv_of_nonneg (by omega)]; omega
  have w3 : IntKind.i64.wrap ((needN n : Nat) : Int) = ((needN n : Nat) : Int) := by unfold needN; exact wrap_id (by omega) (by omega)
  (refine gives_iff ?_; refine go_func Tryz.f118 rfl rfl (by simp [Tryz.f118]) ?_; dsimp only [codeL, Tryz.f118, scL, sopsL, guardL, dstAt, loopKey])
  (repeat (first
    | (apply is_ok; (case hw => simp [w1, w2, q1, w3]); (case he => simp [w1, w2, q1, w3]; exact is_rfl))
    | (apply op_no; (case hw => simp [w1, w2, q1, w3]))
    | refine op_nil ?_ | refine next_normal ?_ | refine go_seq ?_ | refine go_region ?_ | refine go_skip ?_ | refine go_block ?_ | refine inb_normal ?_
    | (apply go_yes; (case hc => simp [w1, w2, q1, w3])) | (apply go_no; (case hc => simp [w1, w2, q1, w3]))
    | refine go_exit ?_ | refine next_exit ?_ | refine inb_here ?_ | refine inb_past (by decide) ?_ | refine go_ret ?_ | refine next_ret ?_ | refine inb_ret ?_))
  (apply ends_ok; (case h1 => simp; exact is_rfl); (case h2 => simp; exact is_rfl))
  simp

theorem contents_eq (S : List (List UInt8)) (B : List Int) (hR : RightP S B) (hB : B.length ≤ maxLen) (k l z : Int) (L : List Int) (hL : L.length = 8) (hz : 0 ≤ z ∧ z ≤ 1024) :
    bodyW DC 57 [drv S B, inoV k l z L] [] = some (.tuple [.str (contV S B L z).1, .int .i64 (contV S B L z).2], []) := by
  have v1 := sectors_eq z ⟨hz.1, by omega⟩
  obtain ⟨n1, n2⟩ := need_le hz
  have vr := fun s => Read_eq S B hB s
  unfold contV
  generalize needN z = m at v1 n1 n2
  generalize hC : contR S B (L.take m) [] = R
  (refine gives_iff ?_; refine go_func Tryz.f57 rfl rfl (by simp [Tryz.f57]) ?_; dsimp only [codeL, Tryz.f57, scL, sopsL, guardL, dstAt, loopKey])
  (repeat (first
    | (apply is_ok; (case hw => simp [v1, n1, hL]); (case he => simp [v1, n1, hL]; exact is_rfl))
    | (apply op_no; (case hw => simp [v1, n1, hL]))
    | refine op_nil ?_ | refine next_normal ?_ | refine go_seq ?_ | refine go_region ?_ | refine go_skip ?_ | refine go_block ?_ | refine inb_normal ?_
    | (apply go_yes; (case hc => simp [v1, n1, hL])) | (apply go_no; (case hc => simp [v1, n1, hL]))
    | refine go_exit ?_ | refine next_exit ?_ | refine inb_here ?_ | refine inb_past (by decide) ?_ | refine go_ret ?_ | refine next_ret ?_ | refine inb_ret ?_))
  refine go_while (σ := Nat × List UInt8) (fun q => [(2, .ptr 0 1 0 0), (3, .ptr 1 1 0 0), (6, .own 2 q.2.length 0 q.2.length), (15, .view 1 1 0 3 m), (16, .int .i64 m), (17, .int .i64 q.1)])
    (fun q => [.box (drv S B), .box (inoV k l z L), .dat true 1 (u8s q.2)])
    (fun q => q.1 ≤ m ∧ q.2.length = 128 * q.1 ∧ contR S B ((L.take m).drop q.1) q.2 = R) (fun q => m - q.1) (0, []) (by simp [u8s]) ⟨by simp, by simp, by simpa using hC⟩ ?_
  rintro ⟨i, b⟩ ⟨hi, hbl, hA⟩
  simp only at hi hbl hA ⊢
  have w1 : IntKind.i64.wrap ((i : Int) + 1) = (i : Int) + 1 := wrap_id (by omega) (by omega)
  have hml : (L.take m).length = m := by rw [List.length_take]; omega
  by_cases hlt : i < m
  · have g1 : (i : Int) < m := by omega
    have hiL : i < L.length := by omega
    have hs := sub_ino (k := k) (l := l) (z := z) hiL
    have v2 := vr L[i]
    rw [List.drop_eq_getElem_cons (by rw [hml]; exact hlt), List.getElem_take, contR] at hA
    by_cases he : (readS S B L[i]).2 = 0
    · rw [if_pos he] at hA
      have hrl := readS_len hR he
      rw [he] at v2
      generalize (readS S B L[i]).1 = t at v2 hA hrl
      have r1 : b.length + t.length ≤ room := by unfold room; omega
      have i8 : i < 8 := by omega
      have i8' : (i : Int) < 8 := by omega
      have ea := u8s_append b t
      have ua := u8s_all1 t
      (repeat (first
    | (apply is_ok; (case hw => simp [g1, hlt, hs, v1, v2, w1, r1, i8, i8', ea, ua]); (case he => simp [g1, hlt, hs, v1, v2, w1, r1, i8, i8', ea, ua]; exact is_rfl))
    | (apply op_no; (case hw => simp [g1, hlt, hs, v1, v2, w1, r1, i8, i8', ea, ua]))
    | refine op_nil ?_ | refine next_normal ?_ | refine go_seq ?_ | refine go_region ?_ | refine go_skip ?_ | refine go_block ?_ | refine inb_normal ?_
    | (apply go_yes; (case hc => simp [g1, hlt, hs, v1, v2, w1, r1, i8, i8', ea, ua])) | (apply go_no; (case hc => simp [g1, hlt, hs, v1, v2, w1, r1, i8, i8', ea, ua]))
    | refine go_exit ?_ | refine next_exit ?_ | refine inb_here ?_ | refine inb_past (by decide) ?_ | refine go_ret ?_ | refine next_ret ?_ | refine inb_ret ?_))
      exact ⟨(i + 1, b ++ t), by simp [w1, ea], by show m - (i + 1) < m - i; omega, by show i + 1 ≤ m; omega, by show (b ++ t).length = 128 * (i + 1); rw [List.length_append]; omega, hA⟩
    · rw [if_neg he] at hA
      subst hA
      generalize (readS S B L[i]).1 = t at v2
      generalize (readS S B L[i]).2 = e at v2 he
      have i8 : i < 8 := by omega
      have i8' : (i : Int) < 8 := by omega
      (repeat (first
    | (apply is_ok; (case hw => simp [g1, hlt, hs, v1, v2, he, i8, i8']); (case he => simp [g1, hlt, hs, v1, v2, he, i8, i8']; exact is_rfl))
    | (apply op_no; (case hw => simp [g1, hlt, hs, v1, v2, he, i8, i8']))
    | refine op_nil ?_ | refine next_normal ?_ | refine go_seq ?_ | refine go_region ?_ | refine go_skip ?_ | refine go_block ?_ | refine inb_normal ?_
    | (apply go_yes; (case hc => simp [g1, hlt, hs, v1, v2, he, i8, i8'])) | (apply go_no; (case hc => simp [g1, hlt, hs, v1, v2, he, i8, i8']))
    | refine go_exit ?_ | refine next_exit ?_ | refine inb_here ?_ | refine inb_past (by decide) ?_ | refine go_ret ?_ | refine next_ret ?_ | refine inb_ret ?_))
      (apply ends_ok; (case h1 => simp; exact is_rfl); (case h2 => simp; exact is_rfl))
      simp
  · obtain rfl : i = m := by omega
    have g1 : ¬ (i : Int) < i := by omega
    rw [List.drop_of_length_le (by rw [hml]; exact Nat.le_refl _), contR] at hA
    subst hA
    obtain ⟨y, rfl⟩ := Int.eq_ofNat_of_zero_le hz.1
    have hyb : y ≤ b.length := by omega
    rw [show ((y : Int)).toNat = y by omega] at n2 ⊢
    have ut := u8s_tk b y
    have ui : (if y = b.length then u8s b else u8s (b.take y)) = u8s (b.take y) := by
      split
      · rw [List.take_of_length_le (by omega)]
      · rfl
    (repeat (first
    | (apply is_ok; (case hw => simp [g1, v1, hyb, ut, ui]); (case he => simp [g1, v1, hyb, ut, ui]; exact is_rfl))
    | (apply op_no; (case hw => simp [g1, v1, hyb, ut, ui]))
    | refine op_nil ?_ | refine next_normal ?_ | refine go_seq ?_ | refine go_region ?_ | refine go_skip ?_ | refine go_block ?_ | refine inb_normal ?_
    | (apply go_yes; (case hc => simp [g1, v1, hyb, ut, ui])) | (apply go_no; (case hc => simp [g1, v1, hyb, ut, ui]))
    | refine go_exit ?_ | refine next_exit ?_ | refine inb_here ?_ | refine inb_past (by decide) ?_ | refine go_ret ?_ | refine next_ret ?_ | refine inb_ret ?_))
    (apply ends_ok; (case h1 => simp; exact is_rfl); (case h2 => simp; exact is_rfl))
    simp

theorem contentsR_eq (S : List (List UInt8)) (B : List Int) (hR : RightP S B) (hB : B.length ≤ maxLen) (k l z : Int) (L : List Int) (hL : L.length = 8) (hz : 0 ≤ z ∧ z ≤ 1024) :
    bodyW DC 60 [drv S B, inoV k l z L] [] = some (.tuple [.str (contV S B L z).1, .int .i64 (contV S B L z).2], []) := by
  have v1 := needed_eq z ⟨hz.1, by omega⟩
  obtain ⟨n1, n2⟩ := need_le hz
  have vr := fun s => ReadR_eq S B hB s
  unfold contV
  generalize needN z = m at v1 n1 n2
  generalize hC : contR S B (L.take m) [] = R
  (refine gives_iff ?_; refine go_func Tryz.f60 rfl rfl (by simp [Tryz.f60]) ?_; dsimp only [codeL, Tryz.f60, scL, sopsL, guardL, dstAt, loopKey])
  (repeat (first
    | (apply is_ok; (case hw => simp [v1, n1, hL]); (case he => simp [v1, n1, hL]; exact is_rfl))
    | (apply op_no; (case hw => simp [v1, n1, hL]))
    | refine op_nil ?_ | refine next_normal ?_ | refine go_seq ?_ | refine go_region ?_ | refine go_skip ?_ | refine go_block ?_ | refine inb_normal ?_
    | (apply go_yes; (case hc => simp [v1, n1, hL])) | (apply go_no; (case hc => simp [v1, n1, hL]))
    | refine go_exit ?_ | refine next_exit ?_ | refine inb_here ?_ | refine inb_past (by decide) ?_ | refine go_ret ?_ | refine next_ret ?_ | refine inb_ret ?_))
  refine go_while (σ := Nat × List UInt8) (fun q => [(2, .ptr 0 1 0 0), (3, .ptr 1 1 0 0), (6, .str q.2), (7, .int .i64 q.1)])
    (fun q => [.box (drv S B), .box (inoV k l z L)])
    (fun q => q.1 ≤ m ∧ q.2.length = 128 * q.1 ∧ contR S B ((L.take m).drop q.1) q.2 = R) (fun q => m - q.1) (0, []) (by simp [u8s]) ⟨by simp, by simp, by simpa using hC⟩ ?_
  rintro ⟨i, b⟩ ⟨hi, hbl, hA⟩
  simp only at hi hbl hA ⊢
  have w1 : IntKind.i64.wrap ((i : Int) + 1) = (i : Int) + 1 := wrap_id (by omega) (by omega)
  have hml : (L.take m).length = m := by rw [List.length_take]; omega
  by_cases hlt : i < m
  · have g1 : (i : Int) < m := by omega
    have hiL : i < L.length := by omega
    have hs := sub_ino (k := k) (l := l) (z := z) hiL
    have v2 := vr L[i]
    rw [List.drop_eq_getElem_cons (by rw [hml]; exact hlt), List.getElem_take, contR] at hA
    by_cases he : (readS S B L[i]).2 = 0
    · rw [if_pos he] at hA
      have hrl := readS_len hR he
      rw [he] at v2
      generalize (readS S B L[i]).1 = t at v2 hA hrl
      have r1 : b.length + t.length ≤ room := by unfold room; omega
      have i8 : i < 8 := by omega
      have i8' : (i : Int) < 8 := by omega
      have ea := u8s_append b t
      (repeat (first
    | (apply is_ok; (case hw => simp [g1, hlt, hs, v1, v2, w1, r1, i8, i8', ea]); (case he => simp [g1, hlt, hs, v1, v2, w1, r1, i8, i8', ea]; exact is_rfl))
    | (apply op_no; (case hw => simp [g1, hlt, hs, v1, v2, w1, r1, i8, i8', ea]))
    | refine op_nil ?_ | refine next_normal ?_ | refine go_seq ?_ | refine go_region ?_ | refine go_skip ?_ | refine go_block ?_ | refine inb_normal ?_
    | (apply go_yes; (case hc => simp [g1, hlt, hs, v1, v2, w1, r1, i8, i8', ea])) | (apply go_no; (case hc => simp [g1, hlt, hs, v1, v2, w1, r1, i8, i8', ea]))
    | refine go_exit ?_ | refine next_exit ?_ | refine inb_here ?_ | refine inb_past (by decide) ?_ | refine go_ret ?_ | refine next_ret ?_ | refine inb_ret ?_))
      exact ⟨(i + 1, b ++ t), by simp [w1, ea], by show m - (i + 1) < m - i; omega, by show i + 1 ≤ m; omega, by show (b ++ t).length = 128 * (i + 1); rw [List.length_append]; omega, hA⟩
    · rw [if_neg he] at hA
      subst hA
      generalize (readS S B L[i]).1 = t at v2
      generalize (readS S B L[i]).2 = e at v2 he
      have i8 : i < 8 := by omega
      have i8' : (i : Int) < 8 := by omega
      (repeat (first
    | (apply is_ok; (case hw => simp [g1, hlt, hs, v1, v2, he, i8, i8']); (case he => simp [g1, hlt, hs, v1, v2, he, i8, i8']; exact is_rfl))
    | (apply op_no; (case hw => simp [g1, hlt, hs, v1, v2, he, i8, i8']))
    | refine op_nil ?_ | refine next_normal ?_ | refine go_seq ?_ | refine go_region ?_ | refine go_skip ?_ | refine go_block ?_ | refine inb_normal ?_
    | (apply go_yes; (case hc => simp [g1, hlt, hs, v1, v2, he, i8, i8'])) | (apply go_no; (case hc => simp [g1, hlt, hs, v1, v2, he, i8, i8']))
    | refine go_exit ?_ | refine next_exit ?_ | refine inb_here ?_ | refine inb_past (by decide) ?_ | refine go_ret ?_ | refine next_ret ?_ | refine inb_ret ?_))
      (apply ends_ok; (case h1 => simp; exact is_rfl); (case h2 => simp; exact is_rfl))
      simp
  · obtain rfl : i = m := by omega
    have g1 : ¬ (i : Int) < i := by omega
    rw [List.drop_of_length_le (by rw [hml]; exact Nat.le_refl _), contR] at hA
    subst hA
    obtain ⟨y, rfl⟩ := Int.eq_ofNat_of_zero_le hz.1
    have hyb : y ≤ b.length := by omega
    rw [show ((y : Int)).toNat = y by omega] at n2 ⊢
    (repeat (first
    | (apply is_ok; (case hw => simp [g1, v1, hyb]); (case he => simp [g1, v1, hyb]; exact is_rfl))
    | (apply op_no; (case hw => simp [g1, v1, hyb]))
    | refine op_nil ?_ | refine next_normal ?_ | refine go_seq ?_ | refine go_region ?_ | refine go_skip ?_ | refine go_block ?_ | refine inb_normal ?_
    | (apply go_yes; (case hc => simp [g1, v1, hyb])) | (apply go_no; (case hc => simp [g1, v1, hyb]))
    | refine go_exit ?_ | refine next_exit ?_ | refine inb_here ?_ | refine inb_past (by decide) ?_ | refine go_ret ?_ | refine next_ret ?_ | refine inb_ret ?_))
    (apply ends_ok; (case h1 => simp; exact is_rfl); (case h2 => simp; exact is_rfl))
    simp
end Go.Abs

