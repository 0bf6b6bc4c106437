/- Proved here: what functions of the program compute, over the evaluator. No condition but those that each theorem states. -/
import Derived.Test.YtpffmpllnpmkbaaE17
namespace Go.Abs
open Go.Proofs
set_option maxRecDepth 100000
set_option linter.unusedSimpArgs false
set_option linter.unusedVariables false

theorem set_set (s : List UInt8) (q : Nat) (a b : UInt8) : (s.set q a).set q b = s.set q b := by simp

set_option maxHeartbeats 4000000 in
theorem Mark_eq (S : List (List UInt8)) (B : List Int) (hB : B.length ≤ maxLen) (l : List Int) (hl : l.length ≤ 1000000) (hX : In64 l) (u : Bool) :
    bodyW DC 28 [drv S B, .sl (ints l), .bool u] [] = some (.tuple [wrV (markW S B l u).1, .int .i64 (markW S B l u).2], []) := by
  unfold markW
  by_cases h : (mapS S B).2 = 0
  case neg =>
    have hb := bits_no S B hB h
    rw [if_neg h]
    generalize mapS S B = e at hb h
    (refine gives_iff ?_; refine go_func Try.f28 rfl rfl (by simp [Try.f28]) ?_; dsimp only [codeL, Try.f28, scL, sopsL, guardL, dstAt, loopKey])
    (repeat (first
    | (apply is_ok; (case hw => simp [hb, h]); (case he => simp [hb, h]; exact is_rfl))
    | (apply op_no; (case hw => simp [hb, h]))
    | refine op_nil ?_ | refine next_normal ?_ | refine go_seq ?_ | refine go_region ?_ | refine go_skip ?_ | refine go_block ?_ | refine inb_normal ?_
    | (apply go_yes; (case hc => simp [hb, h])) | (apply go_no; (case hc => simp [hb, h]))
    | refine go_exit ?_ | refine next_exit ?_ | refine inb_here ?_ | refine inb_past (by decide) ?_ | refine go_ret ?_ | refine next_ret ?_ | refine inb_ret ?_))
    (apply ends_ok; (case h1 => simp; exact is_rfl); (case h2 => simp; exact is_rfl))
    simp
  have hb := bits_ok S B hB h
  obtain ⟨hv, hs⟩ := map_ok h
  obtain ⟨hn, hn2⟩ := freeN_eq hv
  rw [hn] at hb
  rw [if_pos h]
  generalize freeN S = n at hb hn2
  generalize (mapS S B).1 = s at hb hs
  generalize hR : markF n u s l = R
  (refine gives_iff ?_; refine go_func Try.f28 rfl rfl (by simp [Try.f28]) ?_; dsimp only [codeL, Try.f28, scL, sopsL, guardL, dstAt, loopKey])
  (repeat (first
    | (apply is_ok; (case hw => simp [hb]); (case he => simp [hb]; exact is_rfl))
    | (apply op_no; (case hw => simp [hb]))
    | refine op_nil ?_ | refine next_normal ?_ | refine go_seq ?_ | refine go_region ?_ | refine go_skip ?_ | refine go_block ?_ | refine inb_normal ?_
    | (apply go_yes; (case hc => simp [hb])) | (apply go_no; (case hc => simp [hb]))
    | refine go_exit ?_ | refine next_exit ?_ | refine inb_here ?_ | refine inb_past (by decide) ?_ | refine go_ret ?_ | refine next_ret ?_ | refine inb_ret ?_))
  refine go_while (σ := List UInt8 × Nat) (fun p => [(2, .bool u), (6, .ptr 0 1 0 0), (8, .ptr 1 1 0 0), (9, .own 2 128 0 128), (23, .sl (ints l)), (24, .int .i64 l.length), (25, .int .i64 p.2)])
    (fun p => [.box (wrV (0, [])), .box (extV 27 (n : Int)), .dat true 1 (u8s p.1)]) (fun p => p.2 ≤ l.length ∧ p.1.length = 128 ∧ markF n u p.1 (l.drop p.2) = R) (fun p => l.length - p.2) (s, 0) (by simp) ⟨by simp, hs, by simpa using hR⟩ ?_
  rintro ⟨t, i⟩ ⟨hi, ht, hI⟩
  dsimp only at hi ht hI
  have hw : IntKind.i64.wrap ((i : Int) + 1) = ((i + 1 : Nat) : Int) := wrap_id (by omega) (by omega)
  have w1 : IntKind.i64.wrap (27 + (n : Int)) = 27 + n := wrap_id (by omega) (by omega)
  by_cases hlt : i < l.length
  · rw [markF_at hlt] at hI
    have gx : l[i]? = some (l[i]'hlt) := List.getElem?_eq_getElem hlt
    have hx := hX _ (List.getElem_mem hlt)
    generalize hx0 : l[i]'hlt = x at hI gx hx
    by_cases hx2 : 27 ≤ x ∧ x < 27 + (n : Int)
    · rw [if_pos hx2] at hI
      obtain ⟨m, rfl⟩ : ∃ m : Nat, x = m := ⟨x.toNat, by omega⟩
      have hx27 : ¬ ((m : Int) < 27) := by omega
      have hxn : ¬ (27 + (n : Int) ≤ m) := by omega
      have f2 := and7 m (by omega)
      have fu : (u8s t).length = 128 := by simp [ht]
      have f1 : (m : Int).fdiv 8 = ((m / 8 : Nat) : Int) := fdiv_nat m 8
      have hq : m / 8 < t.length := by omega
      rw [Int.toNat_natCast] at hI
      unfold markS at hI
      rw [getD_at hq] at hI
      generalize hy : t[m / 8]'hq = y at hI
      have g0 : (u8s t)[m / 8]? = some (.int .u8 y.toNat) := by
        unfold u8s
        rw [List.getElem?_map, List.getElem?_eq_getElem hq, hy]; rfl
      have g1 : ∀ h, (u8s t)[m / 8]'h = .int .u8 y.toNat := fun h => by
        rw [List.getElem?_eq_getElem h] at g0
        exact Option.some.inj g0
      have hy8 := y.toNat_lt
      have hr : m % 8 < 8 := Nat.mod_lt _ (by omega)
      generalize m / 8 = q at f1 g0 g1 hq hI
      generalize m % 8 = r at f2 hr hI
      obtain ⟨c1, c2, c3, c4, c5, c6⟩ := chk_at (x := y.toNat) (by omega) hr
      have f5 : min r 8 = r := by omega
      have f7 : IntKind.u8.wrap ((2 : Int) ^ r) = ((2 ^ r : Nat) : Int) := by
        have hp : 2 ^ r ≤ 128 := Nat.le_trans (Nat.pow_le_pow_right (by omega) (show r ≤ 7 by omega)) (by decide)
        have e : ((2 : Int) ^ r) = ((2 ^ r : Nat) : Int) := by rw [Int.natCast_pow]; rfl
        rw [e]
        generalize 2 ^ r = p at hp
        rw [wrap_u8_nat]
        omega
      have gq : q < 128 := by omega
      have e1 := u8s_set t q (markN y.toNat r false) c2
      have e2 := u8s_set t q (markN y.toNat r true) c1
      generalize 2 ^ r = p at c3 c4 c5 c6 f7
      cases u with
      | true =>
        generalize markN y.toNat r true = v at c1 c4 c5 e2 hI
        generalize markN y.toNat r false = v' at c2 c3 c6 e1 c4
        (repeat (first
    | (apply is_ok; (case hw => simp [-intOp, hlt, gx, hx0, hx27, hxn, w1, intOp_or, intOp_andNot, f1, f2, f5, f7, g0, g1, fu, ht, gq, c3, c4]); (case he => simp [-intOp, hlt, gx, hx0, hx27, hxn, w1, intOp_or, intOp_andNot, f1, f2, f5, f7, g0, g1, fu, ht, gq, c3, c4]; exact is_rfl))
    | (apply op_no; (case hw => simp [-intOp, hlt, gx, hx0, hx27, hxn, w1, intOp_or, intOp_andNot, f1, f2, f5, f7, g0, g1, fu, ht, gq, c3, c4]))
    | refine op_nil ?_ | refine next_normal ?_ | refine go_seq ?_ | refine go_region ?_ | refine go_skip ?_ | refine go_block ?_ | refine inb_normal ?_
    | (apply go_yes; (case hc => simp [-intOp, hlt, gx, hx0, hx27, hxn, w1, intOp_or, intOp_andNot, f1, f2, f5, f7, g0, g1, fu, ht, gq, c3, c4])) | (apply go_no; (case hc => simp [-intOp, hlt, gx, hx0, hx27, hxn, w1, intOp_or, intOp_andNot, f1, f2, f5, f7, g0, g1, fu, ht, gq, c3, c4]))
    | refine go_exit ?_ | refine next_exit ?_ | refine inb_here ?_ | refine inb_past (by decide) ?_ | refine go_ret ?_ | refine next_ret ?_ | refine inb_ret ?_))
        refine ⟨(t.set q (UInt8.ofNat v), i + 1), by simp [hw, e2], by dsimp only; omega, by dsimp only; omega, by simpa using ht, by simpa using hI⟩
      | false =>
        generalize markN y.toNat r false = v at c2 c3 c6 e1 c4 hI
        (repeat (first
    | (apply is_ok; (case hw => simp [-intOp, hlt, gx, hx0, hx27, hxn, w1, intOp_or, intOp_andNot, f1, f2, f5, f7, g0, g1, fu, ht, gq, c3]); (case he => simp [-intOp, hlt, gx, hx0, hx27, hxn, w1, intOp_or, intOp_andNot, f1, f2, f5, f7, g0, g1, fu, ht, gq, c3]; exact is_rfl))
    | (apply op_no; (case hw => simp [-intOp, hlt, gx, hx0, hx27, hxn, w1, intOp_or, intOp_andNot, f1, f2, f5, f7, g0, g1, fu, ht, gq, c3]))
    | refine op_nil ?_ | refine next_normal ?_ | refine go_seq ?_ | refine go_region ?_ | refine go_skip ?_ | refine go_block ?_ | refine inb_normal ?_
    | (apply go_yes; (case hc => simp [-intOp, hlt, gx, hx0, hx27, hxn, w1, intOp_or, intOp_andNot, f1, f2, f5, f7, g0, g1, fu, ht, gq, c3])) | (apply go_no; (case hc => simp [-intOp, hlt, gx, hx0, hx27, hxn, w1, intOp_or, intOp_andNot, f1, f2, f5, f7, g0, g1, fu, ht, gq, c3]))
    | refine go_exit ?_ | refine next_exit ?_ | refine inb_here ?_ | refine inb_past (by decide) ?_ | refine go_ret ?_ | refine next_ret ?_ | refine inb_ret ?_))
        refine ⟨(t.set q (UInt8.ofNat v), i + 1), by simp [hw, e1], by dsimp only; omega, by dsimp only; omega, by simpa using ht, by simpa using hI⟩
    · rw [if_neg hx2] at hI
      by_cases hx27 : x < 27
      · (repeat (first
    | (apply is_ok; (case hw => simp [hlt, gx, hx0, hx27]); (case he => simp [hlt, gx, hx0, hx27]; exact is_rfl))
    | (apply op_no; (case hw => simp [hlt, gx, hx0, hx27]))
    | refine op_nil ?_ | refine next_normal ?_ | refine go_seq ?_ | refine go_region ?_ | refine go_skip ?_ | refine go_block ?_ | refine inb_normal ?_
    | (apply go_yes; (case hc => simp [hlt, gx, hx0, hx27])) | (apply go_no; (case hc => simp [hlt, gx, hx0, hx27]))
    | refine go_exit ?_ | refine next_exit ?_ | refine inb_here ?_ | refine inb_past (by decide) ?_ | refine go_ret ?_ | refine next_ret ?_ | refine inb_ret ?_))
        (apply ends_ok; (case h1 => simp; exact is_rfl); (case h2 => simp; exact is_rfl))
        simp [← hI]
      · have hxn : 27 + (n : Int) ≤ x := by omega
        (repeat (first
    | (apply is_ok; (case hw => simp [hlt, gx, hx0, hx27, hxn, w1]); (case he => simp [hlt, gx, hx0, hx27, hxn, w1]; exact is_rfl))
    | (apply op_no; (case hw => simp [hlt, gx, hx0, hx27, hxn, w1]))
    | refine op_nil ?_ | refine next_normal ?_ | refine go_seq ?_ | refine go_region ?_ | refine go_skip ?_ | refine go_block ?_ | refine inb_normal ?_
    | (apply go_yes; (case hc => simp [hlt, gx, hx0, hx27, hxn, w1])) | (apply go_no; (case hc => simp [hlt, gx, hx0, hx27, hxn, w1]))
    | refine go_exit ?_ | refine next_exit ?_ | refine inb_here ?_ | refine inb_past (by decide) ?_ | refine go_ret ?_ | refine next_ret ?_ | refine inb_ret ?_))
        (apply ends_ok; (case h1 => simp; exact is_rfl); (case h2 => simp; exact is_rfl))
        simp [← hI]
  · rw [List.drop_eq_nil_of_le (by omega), markF] at hI
    have fu : (u8s t).length = 128 := by simp [ht]
    (repeat (first
    | (apply is_ok; (case hw => simp [hlt, ht, fu]); (case he => simp [hlt, ht, fu]; exact is_rfl))
    | (apply op_no; (case hw => simp [hlt, ht, fu]))
    | refine op_nil ?_ | refine next_normal ?_ | refine go_seq ?_ | refine go_region ?_ | refine go_skip ?_ | refine go_block ?_ | refine inb_normal ?_
    | (apply go_yes; (case hc => simp [hlt, ht, fu])) | (apply go_no; (case hc => simp [hlt, ht, fu]))
    | refine go_exit ?_ | refine next_exit ?_ | refine inb_here ?_ | refine inb_past (by decide) ?_ | refine go_ret ?_ | refine next_ret ?_ | refine inb_ret ?_))
    (apply ends_ok; (case h1 => simp; exact is_rfl); (case h2 => simp; exact is_rfl))
    simp [← hI]
end Go.Abs
