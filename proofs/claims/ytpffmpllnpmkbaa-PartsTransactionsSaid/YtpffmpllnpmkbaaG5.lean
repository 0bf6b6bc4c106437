/- Proved here: what functions of the program compute, over the evaluator. No condition but those that each theorem states. -/
import Derived.Test.YtpffmpllnpmkbaaG4
namespace Go.Abs
open Go.Proofs
set_option maxRecDepth 100000
set_option linter.unusedSimpArgs false
set_option linter.unusedVariables false

/-- A byte with a bit set or cleared. -/
def markN (x r : Nat) (u : Bool) : Nat := if u then (if x / 2 ^ r % 2 = 1 then x else x + 2 ^ r) else (if x / 2 ^ r % 2 = 1 then x - 2 ^ r else x)
def andNotI (k : IntKind) (a b : Int) : Int := k.wrap (BitVec.ofInt k.bits a &&& ~~~ BitVec.ofInt k.bits b).toNat
def orI (k : IntKind) (a b : Int) : Int := k.wrap (BitVec.ofInt k.bits a ||| BitVec.ofInt k.bits b).toNat
theorem intOp_andNot (k : IntKind) (a b : Int) : intOp .andNot k a b = some (.int k (andNotI k a b)) := rfl
theorem intOp_or (k : IntKind) (a b : Int) : intOp .or k a b = some (.int k (orI k a b)) := rfl
def chk (x r : Nat) : Bool := decide (markN x r true < 256) && (decide (markN x r false < 256) && (decide (andNotI .u8 x (2 ^ r : Nat) = markN x r false) && (decide (orI .u8 (markN x r false) (2 ^ r : Nat) = markN x r true) &&
  (decide (IntKind.u8.wrap (orI .i64 x (2 ^ r : Nat)) = markN x r true) && decide (IntKind.u8.wrap (andNotI .i64 x (2 ^ r : Nat)) = markN x r false)))))
theorem chk_all : ((List.range 256).all fun x => (List.range 8).all fun r => chk x r) = true := by kernel_rfl
theorem chk_at {x r : Nat} (hx : x < 256) (hr : r < 8) : markN x r true < 256 ∧ markN x r false < 256 ∧ andNotI .u8 x (2 ^ r : Nat) = markN x r false ∧ orI .u8 (markN x r false) (2 ^ r : Nat) = markN x r true ∧
    IntKind.u8.wrap (orI .i64 x (2 ^ r : Nat)) = markN x r true ∧ IntKind.u8.wrap (andNotI .i64 x (2 ^ r : Nat)) = markN x r false := by
  have h := List.all_eq_true.1 (List.all_eq_true.1 chk_all x (List.mem_range.2 hx)) r (List.mem_range.2 hr)
  unfold chk at h
  simp only [Bool.and_eq_true, decide_eq_true_eq] at h
  exact h

def markS (s : List UInt8) (n : Nat) (u : Bool) : List UInt8 := s.set (n / 8) (UInt8.ofNat (markN (s.getD (n / 8) 0).toNat (n % 8) u))
@[simp] theorem markS_length {s : List UInt8} {n : Nat} {u : Bool} : (markS s n u).length = s.length := by simp [markS]
theorem u8s_set (s : List UInt8) (q v : Nat) (h : v < 256) : u8s (s.set q (UInt8.ofNat v)) = (u8s s).set q (.int .u8 (v : Int)) := by
  unfold u8s
  rw [List.map_set]
  congr 2
  simp
  omega

theorem marked_eq (s : List UInt8) (n : Nat) (u : Bool) (h : n / 8 < s.length) (hn : n ≤ 1000000) (hs : s.length ≤ 1000000) : bodyW DC 54 [.str s, .int .i64 n, .bool u] [] = some (.str (markS s n u), []) := by
  have f1 : (n : Int).tdiv 8 = ((n / 8 : Nat) : Int) := by rw [Int.tdiv_eq_ediv_of_nonneg (by omega)]; rfl
  have f2 : (n : Int).tmod 8 = ((n % 8 : Nat) : Int) := by rw [Int.tmod_eq_emod_of_nonneg (by omega)]; rfl
  have f6 : IntKind.i64.wrap ((n / 8 : Nat) : Int) = ((n / 8 : Nat) : Int) := wrap_id (by omega) (by omega)
  unfold markS
  rw [getD_at h]
  generalize hx : s[n / 8]'h = x
  have hx8 := x.toNat_lt
  have hr : n % 8 < 8 := Nat.mod_lt _ (by omega)
  generalize n / 8 = q at f1 h f6 hx
  have g0 : s[q]? = some x := by rw [List.getElem?_eq_getElem h, hx]
  generalize n % 8 = r at f2 hr
  have hset : ∀ v, s.set q v = s.take q ++ v :: s.drop (q + 1) := fun v => by rw [List.set_eq_take_append_cons_drop, if_pos h]
  rw [hset]
  obtain ⟨c1, c2, c3, c4, c5, c6⟩ := chk_at (x := x.toNat) (by omega) hr
  have f5 : min r 64 = r := by omega
  have f7 : IntKind.i64.wrap ((2 : Int) ^ r) = ((2 ^ r : Nat) : Int) := by
    have hp : 2 ^ r ≤ 128 := Nat.le_trans (Nat.pow_le_pow_right (by omega) (show r ≤ 7 by omega)) (by decide)
    have e : ((2 : Int) ^ r) = ((2 ^ r : Nat) : Int) := by rw [Int.natCast_pow]; rfl
    rw [e]
    generalize 2 ^ r = p at hp
    exact wrap_id (by omega) (by omega)
  have f8 : IntKind.i64.wrap ((q : Int) + 1) = (q : Int) + 1 := wrap_id (by omega) (by omega)
  have g6 : ((q : Int) + 1).toNat = q + 1 := by omega
  have g7 : (0 : Int) ≤ (q : Int) + 1 := by omega
  have g8 : (q : Int) + 1 ≤ s.length := by omega
  have f9 := wrap_byte x
  have g2 : q ≤ s.length := by omega
  have g3 : q + 1 ≤ s.length := by omega
  have g4 : min q s.length = q := by omega
  have g5 : s.take s.length = s := List.take_length ..
  have r1 : q + 1 ≤ room := by unfold room; omega
  have r2 : q + 1 + (s.length - (q + 1)) ≤ room := by unfold room; omega
  have r3 : s.length ≤ room := by unfold room; omega
  have r4 : q + (s.length - (q + 1) + 1) ≤ room := by unfold room; omega
  have r5 : q + (s.length - q) = s.length := by omega
  have r6 : q + 1 + (s.length - (q + 1)) = s.length := by omega
  generalize 2 ^ r = p at c3 c4 c5 c6 f7
  cases u with
  | true =>
    generalize markN x.toNat r true = v at c1 c4 c5 ⊢
    (refine gives_iff ?_; refine go_func Try.f54 rfl rfl (by simp [Try.f54]) ?_; dsimp only [codeL, Try.f54, scL, sopsL, guardL, dstAt, loopKey])
    (repeat (first
    | (apply is_ok; (case hw => simp [-intOp, intOp_quo8, intOp_rem8, intOp_or, f1, f2, f5, f6, f7, f8, f9, g0, h, hx, g2, g3, g4, g5, g6, g7, g8, r1, r3, r4, r5, r6, c5]); (case he => simp [-intOp, intOp_quo8, intOp_rem8, intOp_or, f1, f2, f5, f6, f7, f8, f9, g0, h, hx, g2, g3, g4, g5, g6, g7, g8, r1, r3, r4, r5, r6, c5]; exact is_rfl))
    | (apply op_no; (case hw => simp [-intOp, intOp_quo8, intOp_rem8, intOp_or, f1, f2, f5, f6, f7, f8, f9, g0, h, hx, g2, g3, g4, g5, g6, g7, g8, r1, r3, r4, r5, r6, c5]))
    | refine op_nil ?_ | refine next_normal ?_ | refine go_seq ?_ | refine go_region ?_ | refine go_skip ?_ | refine go_block ?_ | refine inb_normal ?_
    | (apply go_yes; (case hc => simp [-intOp, intOp_quo8, intOp_rem8, intOp_or, f1, f2, f5, f6, f7, f8, f9, g0, h, hx, g2, g3, g4, g5, g6, g7, g8, r1, r3, r4, r5, r6, c5])) | (apply go_no; (case hc => simp [-intOp, intOp_quo8, intOp_rem8, intOp_or, f1, f2, f5, f6, f7, f8, f9, g0, h, hx, g2, g3, g4, g5, g6, g7, g8, r1, r3, r4, r5, r6, c5]))
    | refine go_exit ?_ | refine next_exit ?_ | refine inb_here ?_ | refine inb_past (by decide) ?_ | refine go_ret ?_ | refine next_ret ?_ | refine inb_ret ?_))
    (apply ends_ok; (case h1 => simp; exact is_rfl); (case h2 => simp; exact is_rfl))
    simp
  | false =>
    generalize markN x.toNat r false = v at c2 c3 c6 ⊢
    (refine gives_iff ?_; refine go_func Try.f54 rfl rfl (by simp [Try.f54]) ?_; dsimp only [codeL, Try.f54, scL, sopsL, guardL, dstAt, loopKey])
    (repeat (first
    | (apply is_ok; (case hw => simp [-intOp, intOp_quo8, intOp_rem8, intOp_andNot, f1, f2, f5, f6, f7, f8, f9, g0, h, hx, g2, g3, g4, g5, g6, g7, g8, r1, r3, r4, r5, r6, c6]); (case he => simp [-intOp, intOp_quo8, intOp_rem8, intOp_andNot, f1, f2, f5, f6, f7, f8, f9, g0, h, hx, g2, g3, g4, g5, g6, g7, g8, r1, r3, r4, r5, r6, c6]; exact is_rfl))
    | (apply op_no; (case hw => simp [-intOp, intOp_quo8, intOp_rem8, intOp_andNot, f1, f2, f5, f6, f7, f8, f9, g0, h, hx, g2, g3, g4, g5, g6, g7, g8, r1, r3, r4, r5, r6, c6]))
    | refine op_nil ?_ | refine next_normal ?_ | refine go_seq ?_ | refine go_region ?_ | refine go_skip ?_ | refine go_block ?_ | refine inb_normal ?_
    | (apply go_yes; (case hc => simp [-intOp, intOp_quo8, intOp_rem8, intOp_andNot, f1, f2, f5, f6, f7, f8, f9, g0, h, hx, g2, g3, g4, g5, g6, g7, g8, r1, r3, r4, r5, r6, c6])) | (apply go_no; (case hc => simp [-intOp, intOp_quo8, intOp_rem8, intOp_andNot, f1, f2, f5, f6, f7, f8, f9, g0, h, hx, g2, g3, g4, g5, g6, g7, g8, r1, r3, r4, r5, r6, c6]))
    | refine go_exit ?_ | refine next_exit ?_ | refine inb_here ?_ | refine inb_past (by decide) ?_ | refine go_ret ?_ | refine next_ret ?_ | refine inb_ret ?_))
    (apply ends_ok; (case h1 => simp; exact is_rfl); (case h2 => simp; exact is_rfl))
    simp
def markF (N : Int) (u : Bool) : List UInt8 → List Int → Option (List UInt8)
  | t, [] => some t
  | t, x :: l => if 27 ≤ x ∧ x < 27 + N then markF N u (markS t x.toNat u) l else none
theorem markF_at {N : Int} {u : Bool} {t : List UInt8} {l : List Int} {i : Nat} (h : i < l.length) : markF N u t (l.drop i) = if 27 ≤ l[i] ∧ l[i] < 27 + N then markF N u (markS t (l[i]).toNat u) (l.drop (i + 1)) else none := by
  rw [List.drop_eq_getElem_cons h, markF]
def markW (S : List (List UInt8)) (B : List Int) (l : List Int) (u : Bool) : (Int × List UInt8) × Int :=
  if (mapS S B).2 = 0 then (match markF (freeN S) u (mapS S B).1 l with | some t => ((18, t), 0) | none => ((0, []), 2)) else ((0, []), (mapS S B).2)

theorem Data_eq (b n : Int) (h : n ≤ 9223372036854775807) : bodyW DC 53 [extV 27 b, .int .i64 n] [] = some (.bool (decide (27 ≤ n ∧ n < 27 + b)), []) := by
  by_cases h1 : 27 ≤ n
  · have w : IntKind.i64.wrap (n - 27) = n - 27 := wrap_id (by omega) (by omega)
    have e : decide (27 ≤ n ∧ n < 27 + b) = decide (n - 27 < b) := by
      rw [Bool.eq_iff_iff]; simp; omega
    rw [e]
    (refine gives_iff ?_; refine go_func Try.f53 rfl rfl (by simp [Try.f53]) ?_; dsimp only [codeL, Try.f53, scL, sopsL, guardL, dstAt, loopKey])
    (repeat (first
    | (apply is_ok; (case hw => simp [w, h1]); (case he => simp [w, h1]; exact is_rfl))
    | (apply op_no; (case hw => simp [w, h1]))
    | refine op_nil ?_ | refine next_normal ?_ | refine go_seq ?_ | refine go_region ?_ | refine go_skip ?_ | refine go_block ?_ | refine inb_normal ?_
    | (apply go_yes; (case hc => simp [w, h1])) | (apply go_no; (case hc => simp [w, h1]))
    | refine go_exit ?_ | refine next_exit ?_ | refine inb_here ?_ | refine inb_past (by decide) ?_ | refine go_ret ?_ | refine next_ret ?_ | refine inb_ret ?_))
    (apply ends_ok; (case h1 => simp; exact is_rfl); (case h2 => simp; exact is_rfl))
    simp [h1]
  · rw [decide_eq_false (by omega)]
    (refine gives_iff ?_; refine go_func Try.f53 rfl rfl (by simp [Try.f53]) ?_; dsimp only [codeL, Try.f53, scL, sopsL, guardL, dstAt, loopKey])
    (repeat (first
    | (apply is_ok; (case hw => simp [h1]); (case he => simp [h1]; exact is_rfl))
    | (apply op_no; (case hw => simp [h1]))
    | refine op_nil ?_ | refine next_normal ?_ | refine go_seq ?_ | refine go_region ?_ | refine go_skip ?_ | refine go_block ?_ | refine inb_normal ?_
    | (apply go_yes; (case hc => simp [h1])) | (apply go_no; (case hc => simp [h1]))
    | refine go_exit ?_ | refine next_exit ?_ | refine inb_here ?_ | refine inb_past (by decide) ?_ | refine go_ret ?_ | refine next_ret ?_ | refine inb_ret ?_))
    (apply ends_ok; (case h1 => simp; exact is_rfl); (case h2 => simp; exact is_rfl))
    simp [h1]

theorem MarkR_eq (S : List (List UInt8)) (B : List Int) (hB : B.length ≤ maxLen) (l : List Int) (hl : l.length ≤ 1000000) (hX : In64 l) (u : Bool) :
    bodyW DC 29 [drv S B, .sl (ints l), .bool u] [] = some (.tuple [wrV (markW S B l u).1, .int .i64 (markW S B l u).2], []) := by
  obtain ⟨a, b, hb, hab⟩ := bitmap_eq S B hB
  unfold markW
  by_cases h : (mapS S B).2 = 0
  case neg =>
    clear hab
    rw [if_neg h]
    generalize mapS S B = e at hb h
    (refine gives_iff ?_; refine go_func Try.f29 rfl rfl (by simp [Try.f29]) ?_; dsimp only [codeL, Try.f29, scL, sopsL, guardL, dstAt, loopKey])
    (repeat (first
    | (apply is_ok; (case hw => simp [hb, h]); (case he => simp [hb, h]; exact is_rfl))
    | (apply op_no; (case hw => simp [hb, h]))
    | refine op_nil ?_ | refine next_normal ?_ | refine go_seq ?_ | refine go_region ?_ | refine go_skip ?_ | refine go_block ?_ | refine inb_normal ?_
    | (apply go_yes; (case hc => simp [hb, h])) | (apply go_no; (case hc => simp [hb, h]))
    | refine go_exit ?_ | refine next_exit ?_ | refine inb_here ?_ | refine inb_past (by decide) ?_ | refine go_ret ?_ | refine next_ret ?_ | refine inb_ret ?_))
    (apply ends_ok; (case h1 => simp; exact is_rfl); (case h2 => simp; exact is_rfl))
    simp
  obtain ⟨rfl, rfl⟩ := hab h
  obtain ⟨hv, hs⟩ := map_ok h
  obtain ⟨hn, hn2⟩ := freeN_eq hv
  rw [hn, h] at hb
  rw [if_pos h]
  clear hab
  generalize freeN S = n at hb hn2
  generalize (mapS S B).1 = s at hb hs
  generalize hR : markF n u s l = R
  (refine gives_iff ?_; refine go_func Try.f29 rfl rfl (by simp [Try.f29]) ?_; dsimp only [codeL, Try.f29, scL, sopsL, guardL, dstAt, loopKey])
  (repeat (first
    | (apply is_ok; (case hw => simp [hb]); (case he => simp [hb]; exact is_rfl))
    | (apply op_no; (case hw => simp [hb]))
    | refine op_nil ?_ | refine next_normal ?_ | refine go_seq ?_ | refine go_region ?_ | refine go_skip ?_ | refine go_block ?_ | refine inb_normal ?_
    | (apply go_yes; (case hc => simp [hb])) | (apply go_no; (case hc => simp [hb]))
    | refine go_exit ?_ | refine next_exit ?_ | refine inb_here ?_ | refine inb_past (by decide) ?_ | refine go_ret ?_ | refine next_ret ?_ | refine inb_ret ?_))
  refine go_while (σ := List UInt8 × Nat) (fun p => [(1, .sl (ints l)), (2, .bool u), (6, .ptr 0 1 0 0), (8, .ptr 1 1 0 0), (9, .str p.1), (11, .int .i64 p.2)])
    (fun p => [.box (wrV (0, [])), .box (extV 27 (n : Int))]) (fun p => p.2 ≤ l.length ∧ p.1.length = 128 ∧ markF n u p.1 (l.drop p.2) = R) (fun p => l.length - p.2) (s, 0) (by simp) ⟨by simp, hs, by simpa using hR⟩ ?_
  rintro ⟨t, i⟩ ⟨hi, ht, hI⟩
  dsimp only at hi ht hI
  have hw : IntKind.i64.wrap ((i : Int) + 1) = ((i + 1 : Nat) : Int) := wrap_id (by omega) (by omega)
  by_cases hlt : i < l.length
  · rw [markF_at hlt] at hI
    have gx : l[i]? = some (l[i]'hlt) := List.getElem?_eq_getElem hlt
    have hx := hX _ (List.getElem_mem hlt)
    generalize hx0 : l[i]'hlt = x at hI gx hx
    have hD := Data_eq n x hx.2
    by_cases hx2 : 27 ≤ x ∧ x < 27 + (n : Int)
    · rw [if_pos hx2] at hI
      rw [decide_eq_true hx2] at hD
      obtain ⟨m, rfl⟩ : ∃ m : Nat, x = m := ⟨x.toNat, by omega⟩
      have hM := marked_eq t m u (by omega) (by omega) (by omega)
      (repeat (first
    | (apply is_ok; (case hw => simp [hlt, gx, hx0, hD, hM]); (case he => simp [hlt, gx, hx0, hD, hM]; exact is_rfl))
    | (apply op_no; (case hw => simp [hlt, gx, hx0, hD, hM]))
    | refine op_nil ?_ | refine next_normal ?_ | refine go_seq ?_ | refine go_region ?_ | refine go_skip ?_ | refine go_block ?_ | refine inb_normal ?_
    | (apply go_yes; (case hc => simp [hlt, gx, hx0, hD, hM])) | (apply go_no; (case hc => simp [hlt, gx, hx0, hD, hM]))
    | refine go_exit ?_ | refine next_exit ?_ | refine inb_here ?_ | refine inb_past (by decide) ?_ | refine go_ret ?_ | refine next_ret ?_ | refine inb_ret ?_))
      refine ⟨(markS t m u, i + 1), by simp [hw], by dsimp only; omega, by omega, by simpa using ht, by simpa using hI⟩
    · rw [if_neg hx2] at hI
      rw [decide_eq_false hx2] at hD
      (repeat (first
    | (apply is_ok; (case hw => simp [hlt, gx, hx0, hD]); (case he => simp [hlt, gx, hx0, hD]; exact is_rfl))
    | (apply op_no; (case hw => simp [hlt, gx, hx0, hD]))
    | refine op_nil ?_ | refine next_normal ?_ | refine go_seq ?_ | refine go_region ?_ | refine go_skip ?_ | refine go_block ?_ | refine inb_normal ?_
    | (apply go_yes; (case hc => simp [hlt, gx, hx0, hD])) | (apply go_no; (case hc => simp [hlt, gx, hx0, hD]))
    | refine go_exit ?_ | refine next_exit ?_ | refine inb_here ?_ | refine inb_past (by decide) ?_ | refine go_ret ?_ | refine next_ret ?_ | refine inb_ret ?_))
      (apply ends_ok; (case h1 => simp; exact is_rfl); (case h2 => simp; exact is_rfl))
      simp [← hI]
  · rw [List.drop_eq_nil_of_le (by omega), markF] at hI
    (repeat (first
    | (apply is_ok; (case hw => simp [hlt]); (case he => simp [hlt]; exact is_rfl))
    | (apply op_no; (case hw => simp [hlt]))
    | refine op_nil ?_ | refine next_normal ?_ | refine go_seq ?_ | refine go_region ?_ | refine go_skip ?_ | refine go_block ?_ | refine inb_normal ?_
    | (apply go_yes; (case hc => simp [hlt])) | (apply go_no; (case hc => simp [hlt]))
    | refine go_exit ?_ | refine next_exit ?_ | refine inb_here ?_ | refine inb_past (by decide) ?_ | refine go_ret ?_ | refine next_ret ?_ | refine inb_ret ?_))
    (apply ends_ok; (case h1 => simp; exact is_rfl); (case h2 => simp; exact is_rfl))
    simp [← hI]
end Go.Abs

namespace Go.Abs
open Go.Proofs
set_option maxRecDepth 100000
set_option linter.unusedSimpArgs false
set_option linter.unusedVariables false

theorem set_set (s : List UInt8) (q : Nat) (a b : UInt8) : (s.set q a).set q b = s.set q b := by simp

set_option maxHeartbeats 4000000 in
theorem Mark_eq (S : List (List UInt8)) (B : List Int) (hB : B.length ≤ maxLen) (l : List Int) (hl : l.length ≤ 1000000) (hX : In64 l) (u : Bool) :
    bodyW DC 28 [drv S B, .sl (ints l), .bool u] [] = some (.tuple [wrV (markW S B l u).1, .int .i64 (markW S B l u).2], []) := by
  unfold markW
  by_cases h : (mapS S B).2 = 0
  case neg =>
    have hb := bits_no S B hB h
    rw [if_neg h]
    generalize mapS S B = e at hb h
    (refine gives_iff ?_; refine go_func Try.f28 rfl rfl (by simp [Try.f28]) ?_; dsimp only [codeL, Try.f28, scL, sopsL, guardL, dstAt, loopKey])
    (repeat (first
    | (apply is_ok; (case hw => simp [hb, h]); (case he => simp [hb, h]; exact is_rfl))
    | (apply op_no; (case hw => simp [hb, h]))
    | refine op_nil ?_ | refine next_normal ?_ | refine go_seq ?_ | refine go_region ?_ | refine go_skip ?_ | refine go_block ?_ | refine inb_normal ?_
    | (apply go_yes; (case hc => simp [hb, h])) | (apply go_no; (case hc => simp [hb, h]))
    | refine go_exit ?_ | refine next_exit ?_ | refine inb_here ?_ | refine inb_past (by decide) ?_ | refine go_ret ?_ | refine next_ret ?_ | refine inb_ret ?_))
    (apply ends_ok; (case h1 => simp; exact is_rfl); (case h2 => simp; exact is_rfl))
    simp
  have hb := bits_ok S B hB h
  obtain ⟨hv, hs⟩ := map_ok h
  obtain ⟨hn, hn2⟩ := freeN_eq hv
  rw [hn] at hb
  rw [if_pos h]
  generalize freeN S = n at hb hn2
  generalize (mapS S B).1 = s at hb hs
  generalize hR : markF n u s l = R
  (refine gives_iff ?_; refine go_func Try.f28 rfl rfl (by simp [Try.f28]) ?_; dsimp only [codeL, Try.f28, scL, sopsL, guardL, dstAt, loopKey])
  (repeat (first
    | (apply is_ok; (case hw => simp [hb]); (case he => simp [hb]; exact is_rfl))
    | (apply op_no; (case hw => simp [hb]))
    | refine op_nil ?_ | refine next_normal ?_ | refine go_seq ?_ | refine go_region ?_ | refine go_skip ?_ | refine go_block ?_ | refine inb_normal ?_
    | (apply go_yes; (case hc => simp [hb])) | (apply go_no; (case hc => simp [hb]))
    | refine go_exit ?_ | refine next_exit ?_ | refine inb_here ?_ | refine inb_past (by decide) ?_ | refine go_ret ?_ | refine next_ret ?_ | refine inb_ret ?_))
  refine go_while (σ := List UInt8 × Nat) (fun p => [(2, .bool u), (6, .ptr 0 1 0 0), (8, .ptr 1 1 0 0), (9, .own 2 128 0 128), (23, .sl (ints l)), (24, .int .i64 l.length), (25, .int .i64 p.2)])
    (fun p => [.box (wrV (0, [])), .box (extV 27 (n : Int)), .dat true 1 (u8s p.1)]) (fun p => p.2 ≤ l.length ∧ p.1.length = 128 ∧ markF n u p.1 (l.drop p.2) = R) (fun p => l.length - p.2) (s, 0) (by simp) ⟨by simp, hs, by simpa using hR⟩ ?_
  rintro ⟨t, i⟩ ⟨hi, ht, hI⟩
  dsimp only at hi ht hI
  have hw : IntKind.i64.wrap ((i : Int) + 1) = ((i + 1 : Nat) : Int) := wrap_id (by omega) (by omega)
  have w1 : IntKind.i64.wrap (27 + (n : Int)) = 27 + n := wrap_id (by omega) (by omega)
  by_cases hlt : i < l.length
  · rw [markF_at hlt] at hI
    have gx : l[i]? = some (l[i]'hlt) := List.getElem?_eq_getElem hlt
    have hx := hX _ (List.getElem_mem hlt)
    generalize hx0 : l[i]'hlt = x at hI gx hx
    by_cases hx2 : 27 ≤ x ∧ x < 27 + (n : Int)
    · rw [if_pos hx2] at hI
      obtain ⟨m, rfl⟩ : ∃ m : Nat, x = m := ⟨x.toNat, by omega⟩
      have hx27 : ¬ ((m : Int) < 27) := by omega
      have hxn : ¬ (27 + (n : Int) ≤ m) := by omega
      have f2 := and7 m (by omega)
      have fu : (u8s t).length = 128 := by simp [ht]
      have f1 : (m : Int).fdiv 8 = ((m / 8 : Nat) : Int) := fdiv_nat m 8
      have hq : m / 8 < t.length := by omega
      rw [Int.toNat_natCast] at hI
      unfold markS at hI
      rw [getD_at hq] at hI
      generalize hy : t[m / 8]'hq = y at hI
      have g0 : (u8s t)[m / 8]? = some (.int .u8 y.toNat) := by
        unfold u8s
        rw [List.getElem?_map, List.getElem?_eq_getElem hq, hy]; rfl
      have g1 : ∀ h, (u8s t)[m / 8]'h = .int .u8 y.toNat := fun h => by
        rw [List.getElem?_eq_getElem h] at g0
        exact Option.some.inj g0
      have hy8 := y.toNat_lt
      have hr : m % 8 < 8 := Nat.mod_lt _ (by omega)
      generalize m / 8 = q at f1 g0 g1 hq hI
      generalize m % 8 = r at f2 hr hI
      obtain ⟨c1, c2, c3, c4, c5, c6⟩ := chk_at (x := y.toNat) (by omega) hr
      have f5 : min r 8 = r := by omega
      have f7 : IntKind.u8.wrap ((2 : Int) ^ r) = ((2 ^ r : Nat) : Int) := by
        have hp : 2 ^ r ≤ 128 := Nat.le_trans (Nat.pow_le_pow_right (by omega) (show r ≤ 7 by omega)) (by decide)
        have e : ((2 : Int) ^ r) = ((2 ^ r : Nat) : Int) := by rw [Int.natCast_pow]; rfl
        rw [e]
        generalize 2 ^ r = p at hp
        rw [wrap_u8_nat]
        omega
      have gq : q < 128 := by omega
      have e1 := u8s_set t q (markN y.toNat r false) c2
      have e2 := u8s_set t q (markN y.toNat r true) c1
      generalize 2 ^ r = p at c3 c4 c5 c6 f7
      cases u with
      | true =>
        generalize markN y.toNat r true = v at c1 c4 c5 e2 hI
        generalize markN y.toNat r false = v' at c2 c3 c6 e1 c4
        (repeat (first
    | (apply is_ok; (case hw => simp [-intOp, hlt, gx, hx0, hx27, hxn, w1, intOp_or, intOp_andNot, f1, f2, f5, f7, g0, g1, fu, ht, gq, c3, c4]); (case he => simp [-intOp, hlt, gx, hx0, hx27, hxn, w1, intOp_or, intOp_andNot, f1, f2, f5, f7, g0, g1, fu, ht, gq, c3, c4]; exact is_rfl))
    | (apply op_no; (case hw => simp [-intOp, hlt, gx, hx0, hx27, hxn, w1, intOp_or, intOp_andNot, f1, f2, f5, f7, g0, g1, fu, ht, gq, c3, c4]))
    | refine op_nil ?_ | refine next_normal ?_ | refine go_seq ?_ | refine go_region ?_ | refine go_skip ?_ | refine go_block ?_ | refine inb_normal ?_
    | (apply go_yes; (case hc => simp [-intOp, hlt, gx, hx0, hx27, hxn, w1, intOp_or, intOp_andNot, f1, f2, f5, f7, g0, g1, fu, ht, gq, c3, c4])) | (apply go_no; (case hc => simp [-intOp, hlt, gx, hx0, hx27, hxn, w1, intOp_or, intOp_andNot, f1, f2, f5, f7, g0, g1, fu, ht, gq, c3, c4]))
    | refine go_exit ?_ | refine next_exit ?_ | refine inb_here ?_ | refine inb_past (by decide) ?_ | refine go_ret ?_ | refine next_ret ?_ | refine inb_ret ?_))
        refine ⟨(t.set q (UInt8.ofNat v), i + 1), by simp [hw, e2], by dsimp only; omega, by dsimp only; omega, by simpa using ht, by simpa using hI⟩
      | false =>
        generalize markN y.toNat r false = v at c2 c3 c6 e1 c4 hI
        (repeat (first
    | (apply is_ok; (case hw => simp [-intOp, hlt, gx, hx0, hx27, hxn, w1, intOp_or, intOp_andNot, f1, f2, f5, f7, g0, g1, fu, ht, gq, c3]); (case he => simp [-intOp, hlt, gx, hx0, hx27, hxn, w1, intOp_or, intOp_andNot, f1, f2, f5, f7, g0, g1, fu, ht, gq, c3]; exact is_rfl))
    | (apply op_no; (case hw => simp [-intOp, hlt, gx, hx0, hx27, hxn, w1, intOp_or, intOp_andNot, f1, f2, f5, f7, g0, g1, fu, ht, gq, c3]))
    | refine op_nil ?_ | refine next_normal ?_ | refine go_seq ?_ | refine go_region ?_ | refine go_skip ?_ | refine go_block ?_ | refine inb_normal ?_
    | (apply go_yes; (case hc => simp [-intOp, hlt, gx, hx0, hx27, hxn, w1, intOp_or, intOp_andNot, f1, f2, f5, f7, g0, g1, fu, ht, gq, c3])) | (apply go_no; (case hc => simp [-intOp, hlt, gx, hx0, hx27, hxn, w1, intOp_or, intOp_andNot, f1, f2, f5, f7, g0, g1, fu, ht, gq, c3]))
    | refine go_exit ?_ | refine next_exit ?_ | refine inb_here ?_ | refine inb_past (by decide) ?_ | refine go_ret ?_ | refine next_ret ?_ | refine inb_ret ?_))
        refine ⟨(t.set q (UInt8.ofNat v), i + 1), by simp [hw, e1], by dsimp only; omega, by dsimp only; omega, by simpa using ht, by simpa using hI⟩
    · rw [if_neg hx2] at hI
      by_cases hx27 : x < 27
      · (repeat (first
    | (apply is_ok; (case hw => simp [hlt, gx, hx0, hx27]); (case he => simp [hlt, gx, hx0, hx27]; exact is_rfl))
    | (apply op_no; (case hw => simp [hlt, gx, hx0, hx27]))
    | refine op_nil ?_ | refine next_normal ?_ | refine go_seq ?_ | refine go_region ?_ | refine go_skip ?_ | refine go_block ?_ | refine inb_normal ?_
    | (apply go_yes; (case hc => simp [hlt, gx, hx0, hx27])) | (apply go_no; (case hc => simp [hlt, gx, hx0, hx27]))
    | refine go_exit ?_ | refine next_exit ?_ | refine inb_here ?_ | refine inb_past (by decide) ?_ | refine go_ret ?_ | refine next_ret ?_ | refine inb_ret ?_))
        (apply ends_ok; (case h1 => simp; exact is_rfl); (case h2 => simp; exact is_rfl))
        simp [← hI]
      · have hxn : 27 + (n : Int) ≤ x := by omega
        (repeat (first
    | (apply is_ok; (case hw => simp [hlt, gx, hx0, hx27, hxn, w1]); (case he => simp [hlt, gx, hx0, hx27, hxn, w1]; exact is_rfl))
    | (apply op_no; (case hw => simp [hlt, gx, hx0, hx27, hxn, w1]))
    | refine op_nil ?_ | refine next_normal ?_ | refine go_seq ?_ | refine go_region ?_ | refine go_skip ?_ | refine go_block ?_ | refine inb_normal ?_
    | (apply go_yes; (case hc => simp [hlt, gx, hx0, hx27, hxn, w1])) | (apply go_no; (case hc => simp [hlt, gx, hx0, hx27, hxn, w1]))
    | refine go_exit ?_ | refine next_exit ?_ | refine inb_here ?_ | refine inb_past (by decide) ?_ | refine go_ret ?_ | refine next_ret ?_ | refine inb_ret ?_))
        (apply ends_ok; (case h1 => simp; exact is_rfl); (case h2 => simp; exact is_rfl))
        simp [← hI]
  · rw [List.drop_eq_nil_of_le (by omega), markF] at hI
    have fu : (u8s t).length = 128 := by simp [ht]
    (repeat (first
    | (apply is_ok; (case hw => simp [hlt, ht, fu]); (case he => simp [hlt, ht, fu]; exact is_rfl))
    | (apply op_no; (case hw => simp [hlt, ht, fu]))
    | refine op_nil ?_ | refine next_normal ?_ | refine go_seq ?_ | refine go_region ?_ | refine go_skip ?_ | refine go_block ?_ | refine inb_normal ?_
    | (apply go_yes; (case hc => simp [hlt, ht, fu])) | (apply go_no; (case hc => simp [hlt, ht, fu]))
    | refine go_exit ?_ | refine next_exit ?_ | refine inb_here ?_ | refine inb_past (by decide) ?_ | refine go_ret ?_ | refine next_ret ?_ | refine inb_ret ?_))
    (apply ends_ok; (case h1 => simp; exact is_rfl); (case h2 => simp; exact is_rfl))
    simp [← hI]
end Go.Abs

namespace Go.Abs
open Go.Proofs
set_option maxRecDepth 100000
set_option linter.unusedSimpArgs false
set_option linter.unusedVariables false

theorem bool_of {P : Program} {t : TypeId} {x : V} (hu : P.underlying t = some .bool) (h : ArgT P t x) : ∃ b, x = .bool b := by
  obtain ⟨n, h1, h2⟩ := h
  rw [show aggT P t = some false by simp [aggT, hu]] at h2
  rw [cells_one (Option.some.inj h2).symm] at h1
  obtain ⟨m, h3⟩ := hasT_bool hu h1
  cases h3
  exact ⟨m, rfl⟩
theorem ints_of {x : V} (h : ArgT Try.prog 32 x) : ∃ l : List Int, x = .sl (ints l) ∧ l.length ≤ maxLen ∧ In64 l := by
  obtain ⟨n, h1, h2⟩ := h
  rw [show aggT Try.prog 32 = some false by kernel_rfl] at h2
  rw [cells_one (Option.some.inj h2).symm] at h1
  obtain ⟨S, h3, h4, h5⟩ := hasT_ints Try.underlying32 (cells_ne (n := 1) (by kernel_rfl) (by decide)) Try.underlying3 h1
  cases h3
  exact ⟨S, rfl, h4, fun x hx => wf_i64 (h5 x hx)⟩
theorem InodeMarks_eq (S : List (List UInt8)) (B : List Int) (hS : S.length ≤ maxLen) (hB : B.length ≤ maxLen) (l : List Int) (hX : In64 l) (u : Bool) :
    bodyW DC 6 [drv S B, .sl (ints l), .bool u] [] = some (.bool true, []) := by
  have hM := small38_eq S B hS
  by_cases hs : SmallD S B
  case neg =>
    (refine gives_iff ?_; refine go_func Try.f6 rfl rfl (by simp [Try.f6]) ?_; dsimp only [codeL, Try.f6, scL, sopsL, guardL, dstAt, loopKey])
    (repeat (first
    | (apply is_ok; (case hw => simp [hM, hs]); (case he => simp [hM, hs]; exact is_rfl))
    | (apply op_no; (case hw => simp [hM, hs]))
    | refine op_nil ?_ | refine next_normal ?_ | refine go_seq ?_ | refine go_region ?_ | refine go_skip ?_ | refine go_block ?_ | refine inb_normal ?_
    | (apply go_yes; (case hc => simp [hM, hs])) | (apply go_no; (case hc => simp [hM, hs]))
    | refine go_exit ?_ | refine next_exit ?_ | refine inb_here ?_ | refine inb_past (by decide) ?_ | refine go_ret ?_ | refine next_ret ?_ | refine inb_ret ?_))
    (apply ends_ok; (case h1 => simp; exact is_rfl); (case h2 => simp; exact is_rfl))
    simp
  by_cases hl : l.length ≤ 300
  case neg =>
    have hl' : (300 : Int) < l.length := by omega
    (refine gives_iff ?_; refine go_func Try.f6 rfl rfl (by simp [Try.f6]) ?_; dsimp only [codeL, Try.f6, scL, sopsL, guardL, dstAt, loopKey])
    (repeat (first
    | (apply is_ok; (case hw => simp [hM, hs, hl']); (case he => simp [hM, hs, hl']; exact is_rfl))
    | (apply op_no; (case hw => simp [hM, hs, hl']))
    | refine op_nil ?_ | refine next_normal ?_ | refine go_seq ?_ | refine go_region ?_ | refine go_skip ?_ | refine go_block ?_ | refine inb_normal ?_
    | (apply go_yes; (case hc => simp [hM, hs, hl'])) | (apply go_no; (case hc => simp [hM, hs, hl']))
    | refine go_exit ?_ | refine next_exit ?_ | refine inb_here ?_ | refine inb_past (by decide) ?_ | refine go_ret ?_ | refine next_ret ?_ | refine inb_ret ?_))
    (apply ends_ok; (case h1 => simp; exact is_rfl); (case h2 => simp; exact is_rfl))
    simp
  have hl' : ¬ (300 : Int) < l.length := by omega
  have hG := Mark_eq S B hB l (by omega) hX u
  have hG' := MarkR_eq S B hB l (by omega) hX u
  have hA := alive38_eq
  generalize markW S B l u = p at hG hG'
  have hE2 := same_wr p.1.1 p.1.2
  (refine gives_iff ?_; refine go_func Try.f6 rfl rfl (by simp [Try.f6]) ?_; dsimp only [codeL, Try.f6, scL, sopsL, guardL, dstAt, loopKey])
  (repeat (first
    | (apply is_ok; (case hw => simp [-binV, hM, hs, hl', hG, hG', hA, hE2]); (case he => simp [-binV, hM, hs, hl', hG, hG', hA, hE2]; exact is_rfl))
    | (apply op_no; (case hw => simp [-binV, hM, hs, hl', hG, hG', hA, hE2]))
    | refine op_nil ?_ | refine next_normal ?_ | refine go_seq ?_ | refine go_region ?_ | refine go_skip ?_ | refine go_block ?_ | refine inb_normal ?_
    | (apply go_yes; (case hc => simp [-binV, hM, hs, hl', hG, hG', hA, hE2])) | (apply go_no; (case hc => simp [-binV, hM, hs, hl', hG, hG', hA, hE2]))
    | refine go_exit ?_ | refine next_exit ?_ | refine inb_here ?_ | refine inb_past (by decide) ?_ | refine go_ret ?_ | refine next_ret ?_ | refine inb_ret ?_))
  (apply ends_ok; (case h1 => simp; exact is_rfl); (case h2 => simp; exact is_rfl))
  simp
end Go.Abs

namespace Go.Abs
open Go.Proofs
set_option maxRecDepth 100000
set_option linter.unusedSimpArgs false
set_option linter.unusedVariables false

theorem allocF_zero (S : List (List UInt8)) (B : List Int) : ∀ f n, (allocF S B f n).2 = 0 → (n : Int) ≤ (allocF S B f n).1 ∧ (allocF S B f n).1 < (n : Int) + f
  | 0, n, h => by simp [allocF] at h
  | f + 1, n, h => by
    unfold allocF at h ⊢
    by_cases h1 : getE S B n ≠ 0
    · rw [if_pos h1] at h; exact absurd h h1
    · rw [if_neg h1] at h ⊢
      by_cases h2 : kindV (getV S B n) = 0
      · rw [if_pos h2]; exact ⟨Int.le_refl _, by dsimp only; omega⟩
      · rw [if_neg h2] at h ⊢
        have := allocF_zero S B f (n + 1) h
        omega
theorem allocF_err (S : List (List UInt8)) (B : List Int) : ∀ f n, (allocF S B f n).2 ≠ 0 → (allocF S B f n).1 = 0
  | 0, n, h => rfl
  | f + 1, n, h => by
    unfold allocF at h ⊢
    by_cases h1 : getE S B n ≠ 0
    · rw [if_pos h1]
    · rw [if_neg h1] at h ⊢
      by_cases h2 : kindV (getV S B n) = 0
      · rw [if_pos h2] at h; exact absurd rfl h
      · rw [if_neg h2] at h ⊢
        exact allocF_err S B f (n + 1) h
theorem getV_free {S : List (List UInt8)} {B : List Int} {n : Int} (h : getE S B n = 0) (hk : kindV (getV S B n) = 0) : getV S B n = ino0 := by
  unfold getV getE at *
  split at h
  · rename_i he
    rw [if_pos he] at hk ⊢
    unfold parseE at h
    split at h
    · rename_i ho
      unfold parseV at hk ⊢
      rw [if_pos ho] at hk ⊢
      have hv := ho.2.1
      have hk' : wd (inoS S B n) 0 = 0 := hk
      unfold validI at hv
      rw [if_pos hk'] at hv
      rw [hk', hv.1, hv.2.1, hv.2.2]
      rfl
    · cases h
  · rename_i he
    exact absurd h he

theorem InodeAllocs_eq (S : List (List UInt8)) (B : List Int) (hS : S.length ≤ maxLen) (hB : B.length ≤ maxLen) : bodyW DC 9 [drv S B] [] = some (.bool true, []) := by
  have hM := small38_eq S B hS
  by_cases hs : SmallD S B
  case neg =>
    (refine gives_iff ?_; refine go_func Try.f9 rfl rfl (by simp [Try.f9]) ?_; dsimp only [codeL, Try.f9, scL, sopsL, guardL, dstAt, loopKey])
    (repeat (first
    | (apply is_ok; (case hw => simp [hM, hs]); (case he => simp [hM, hs]; exact is_rfl))
    | (apply op_no; (case hw => simp [hM, hs]))
    | refine op_nil ?_ | refine next_normal ?_ | refine go_seq ?_ | refine go_region ?_ | refine go_skip ?_ | refine go_block ?_ | refine inb_normal ?_
    | (apply go_yes; (case hc => simp [hM, hs])) | (apply go_no; (case hc => simp [hM, hs]))
    | refine go_exit ?_ | refine next_exit ?_ | refine inb_here ?_ | refine inb_past (by decide) ?_ | refine go_ret ?_ | refine next_ret ?_ | refine inb_ret ?_))
    (apply ends_ok; (case h1 => simp; exact is_rfl); (case h2 => simp; exact is_rfl))
    simp
  have hA := alive38_eq
  have hL := LayoutR_eq S B hB
  have hAl := Alloc_eq S B hB
  by_cases hv : VolP S B
  case neg =>
    rw [layV_no hv] at hL
    have he : (allocF S B 31 1).2 = 9 := by
      have : getE S B (1 : Nat) = 9 := by unfold getE secS; rw [if_neg hv]; rfl
      unfold allocF
      rw [this]
      rfl
    rw [he] at hAl
    (refine gives_iff ?_; refine go_func Try.f9 rfl rfl (by simp [Try.f9]) ?_; dsimp only [codeL, Try.f9, scL, sopsL, guardL, dstAt, loopKey])
    (repeat (first
    | (apply is_ok; (case hw => simp [hM, hs, hL, hAl, hA]); (case he => simp [hM, hs, hL, hAl, hA]; exact is_rfl))
    | (apply op_no; (case hw => simp [hM, hs, hL, hAl, hA]))
    | refine op_nil ?_ | refine next_normal ?_ | refine go_seq ?_ | refine go_region ?_ | refine go_skip ?_ | refine go_block ?_ | refine inb_normal ?_
    | (apply go_yes; (case hc => simp [hM, hs, hL, hAl, hA])) | (apply go_no; (case hc => simp [hM, hs, hL, hAl, hA]))
    | refine go_exit ?_ | refine next_exit ?_ | refine inb_here ?_ | refine inb_past (by decide) ?_ | refine go_ret ?_ | refine next_ret ?_ | refine inb_ret ?_))
    (apply ends_ok; (case h1 => simp; exact is_rfl); (case h2 => simp; exact is_rfl))
    simp
  rw [layV_yes hv] at hL
  have hz := allocF_zero S B 31 1
  have hn := allocF_err S B 31 1
  generalize hR : allocF S B 31 1 = R at hAl hz hn
  obtain ⟨r, e⟩ := R
  dsimp only at hAl hz hn
  obtain ⟨last, hlast⟩ : ∃ last : Nat, (last : Int) = if e = 0 then r else 32 := by
    by_cases he : e = 0
    · have := hz he
      exact ⟨r.toNat, by rw [if_pos he]; omega⟩
    · exact ⟨32, by rw [if_neg he]; rfl⟩
  have hle : last ≤ 32 := by
    by_cases he : e = 0
    · have := hz he
      rw [if_pos he] at hlast; omega
    · rw [if_neg he] at hlast; omega
  have hl1 : 1 ≤ last := by
    by_cases he : e = 0
    · have := hz he
      rw [if_pos he] at hlast; omega
    · rw [if_neg he] at hlast; omega
  (refine gives_iff ?_; refine go_func Try.f9 rfl rfl (by simp [Try.f9]) ?_; dsimp only [codeL, Try.f9, scL, sopsL, guardL, dstAt, loopKey])
  by_cases he : e = 0
  · rw [if_pos he] at hlast
    subst he
    have hzr := hz rfl
    (repeat (first
    | (apply is_ok; (case hw => simp [hM, hs, hL, hAl]); (case he => simp [hM, hs, hL, hAl]; exact is_rfl))
    | (apply op_no; (case hw => simp [hM, hs, hL, hAl]))
    | refine op_nil ?_ | refine next_normal ?_ | refine go_seq ?_ | refine go_region ?_ | refine go_skip ?_ | refine go_block ?_ | refine inb_normal ?_
    | (apply go_yes; (case hc => simp [hM, hs, hL, hAl])) | (apply go_no; (case hc => simp [hM, hs, hL, hAl]))
    | refine go_exit ?_ | refine next_exit ?_ | refine inb_here ?_ | refine inb_past (by decide) ?_ | refine go_ret ?_ | refine next_ret ?_ | refine inb_ret ?_))
    refine go_count (last - 1) (fun i => [(1, .ptr 0 1 0 0), (8, .int .i64 r), (9, .int .i64 0), (10, .int .i64 r), (11, .int .i64 ((i + 1 : Nat) : Int))]) (fun _ => [.box (drv S B)]) (fun i => allocF S B (31 - i) (i + 1) = (r, 0)) (by simp) hR fun i hi hI => ?_
    generalize hj : i + 1 = j at hI
    have hw : IntKind.i64.wrap ((j : Int) + 1) = ((j + 1 : Nat) : Int) := wrap_id (by omega) (by omega)
    by_cases hlt : j < last
    · have hlt' : (j : Int) < r := by omega
      have hf : 31 - i = (31 - (i + 1)) + 1 := by omega
      rw [hf, allocF] at hI
      have hG := Get38_eq S B hB j
      obtain ⟨k, l, z, a, b, c, d, e, f, g, h, hsh, _⟩ := getV_shape S B j
      have hkv : kindV (getV S B j) = k := by rw [hsh]; rfl
      rw [hsh] at hG
      by_cases he : getE S B j = 0
      · rw [if_neg (by simpa using he)] at hI
        rw [he] at hG
        by_cases hk : k = 0
        · rw [if_pos (by rw [hkv]; exact hk)] at hI
          simp at hI
          omega
        · rw [if_neg (by rw [hkv]; exact hk)] at hI
          (repeat (first
    | (apply is_ok; (case hw => simp [hlt', hG, hk]); (case he => simp [hlt', hG, hk]; exact is_rfl))
    | (apply op_no; (case hw => simp [hlt', hG, hk]))
    | refine op_nil ?_ | refine next_normal ?_ | refine go_seq ?_ | refine go_region ?_ | refine go_skip ?_ | refine go_block ?_ | refine inb_normal ?_
    | (apply go_yes; (case hc => simp [hlt', hG, hk])) | (apply go_no; (case hc => simp [hlt', hG, hk]))
    | refine go_exit ?_ | refine next_exit ?_ | refine inb_here ?_ | refine inb_past (by decide) ?_ | refine go_ret ?_ | refine next_ret ?_ | refine inb_ret ?_))
          exact ⟨by omega, by simp [hw, hj], by rw [hj] at hI; exact hI⟩
      · rw [if_pos he] at hI
        simp at hI
        exact absurd hI.2 he
    · have hjr : (j : Int) = r := by omega
      have hlt' : ¬ (j : Int) < r := by omega
      have hf : 31 - i = (31 - (i + 1)) + 1 := by omega
      rw [hf, allocF] at hI
      have hG := Get38_eq S B hB j
      by_cases he : getE S B j = 0
      · rw [if_neg (by simpa using he)] at hI
        by_cases hk : kindV (getV S B j) = 0
        · rw [getV_free he hk, he, hjr] at hG
          have hE := same_ino 0 0 0 0 0 0 0 0 0 0 0
          (repeat (first
    | (apply is_ok; (case hw => simp [-binV, hlt', hG, hA, hE]); (case he => simp [-binV, hlt', hG, hA, hE]; exact is_rfl))
    | (apply op_no; (case hw => simp [-binV, hlt', hG, hA, hE]))
    | refine op_nil ?_ | refine next_normal ?_ | refine go_seq ?_ | refine go_region ?_ | refine go_skip ?_ | refine go_block ?_ | refine inb_normal ?_
    | (apply go_yes; (case hc => simp [-binV, hlt', hG, hA, hE])) | (apply go_no; (case hc => simp [-binV, hlt', hG, hA, hE]))
    | refine go_exit ?_ | refine next_exit ?_ | refine inb_here ?_ | refine inb_past (by decide) ?_ | refine go_ret ?_ | refine next_ret ?_ | refine inb_ret ?_))
          (apply ends_ok; (case h1 => simp; exact is_rfl); (case h2 => simp; exact is_rfl))
          simp
        · rw [if_neg hk] at hI
          have := allocF_zero S B (31 - (i + 1)) (j + 1)
          rw [hI] at this
          have := this rfl
          omega
      · rw [if_pos he] at hI
        simp at hI
        exact absurd hI.2 he
  · rw [if_neg he] at hlast
    have hr0 := hn he
    subst hr0
    (repeat (first
    | (apply is_ok; (case hw => simp [hM, hs, hL, hAl, he]); (case he => simp [hM, hs, hL, hAl, he]; exact is_rfl))
    | (apply op_no; (case hw => simp [hM, hs, hL, hAl, he]))
    | refine op_nil ?_ | refine next_normal ?_ | refine go_seq ?_ | refine go_region ?_ | refine go_skip ?_ | refine go_block ?_ | refine inb_normal ?_
    | (apply go_yes; (case hc => simp [hM, hs, hL, hAl, he])) | (apply go_no; (case hc => simp [hM, hs, hL, hAl, he]))
    | refine go_exit ?_ | refine next_exit ?_ | refine inb_here ?_ | refine inb_past (by decide) ?_ | refine go_ret ?_ | refine next_ret ?_ | refine inb_ret ?_))
    refine go_count (last - 1) (fun i => [(1, .ptr 0 1 0 0), (8, .int .i64 0), (9, .int .i64 e), (10, .int .i64 32), (11, .int .i64 ((i + 1 : Nat) : Int))]) (fun _ => [.box (drv S B)]) (fun i => allocF S B (31 - i) (i + 1) = (0, e)) (by simp) hR fun i hi hI => ?_
    generalize hj : i + 1 = j at hI
    have hw : IntKind.i64.wrap ((j : Int) + 1) = ((j + 1 : Nat) : Int) := wrap_id (by omega) (by omega)
    by_cases hlt : j < last
    · have hlt' : (j : Int) < 32 := by omega
      have hf : 31 - i = (31 - (i + 1)) + 1 := by omega
      rw [hf, allocF] at hI
      have hG := Get38_eq S B hB j
      obtain ⟨k, l, z, a, b, c, d, e', f, g, h, hsh, _⟩ := getV_shape S B j
      have hkv : kindV (getV S B j) = k := by rw [hsh]; rfl
      rw [hsh] at hG
      by_cases he' : getE S B j = 0
      · rw [if_neg (by simpa using he')] at hI
        rw [he'] at hG
        by_cases hk : k = 0
        · rw [if_pos (by rw [hkv]; exact hk)] at hI
          simp at hI
          omega
        · rw [if_neg (by rw [hkv]; exact hk)] at hI
          (repeat (first
    | (apply is_ok; (case hw => simp [hlt', hG, hk]); (case he => simp [hlt', hG, hk]; exact is_rfl))
    | (apply op_no; (case hw => simp [hlt', hG, hk]))
    | refine op_nil ?_ | refine next_normal ?_ | refine go_seq ?_ | refine go_region ?_ | refine go_skip ?_ | refine go_block ?_ | refine inb_normal ?_
    | (apply go_yes; (case hc => simp [hlt', hG, hk])) | (apply go_no; (case hc => simp [hlt', hG, hk]))
    | refine go_exit ?_ | refine next_exit ?_ | refine inb_here ?_ | refine inb_past (by decide) ?_ | refine go_ret ?_ | refine next_ret ?_ | refine inb_ret ?_))
          exact ⟨by omega, by simp [hw, hj], by rw [hj] at hI; exact hI⟩
      · rw [if_pos he'] at hI
        simp at hI
        rw [hI] at hG
        (repeat (first
    | (apply is_ok; (case hw => simp [hlt', hG, he, hA]); (case he => simp [hlt', hG, he, hA]; exact is_rfl))
    | (apply op_no; (case hw => simp [hlt', hG, he, hA]))
    | refine op_nil ?_ | refine next_normal ?_ | refine go_seq ?_ | refine go_region ?_ | refine go_skip ?_ | refine go_block ?_ | refine inb_normal ?_
    | (apply go_yes; (case hc => simp [hlt', hG, he, hA])) | (apply go_no; (case hc => simp [hlt', hG, he, hA]))
    | refine go_exit ?_ | refine next_exit ?_ | refine inb_here ?_ | refine inb_past (by decide) ?_ | refine go_ret ?_ | refine next_ret ?_ | refine inb_ret ?_))
        (apply ends_ok; (case h1 => simp; exact is_rfl); (case h2 => simp; exact is_rfl))
        simp
    · have hlt' : ¬ (j : Int) < 32 := by omega
      have hf : 31 - i = 0 := by omega
      rw [hf, allocF] at hI
      simp at hI
      subst hI
      (repeat (first
    | (apply is_ok; (case hw => simp [hlt', hA]); (case he => simp [hlt', hA]; exact is_rfl))
    | (apply op_no; (case hw => simp [hlt', hA]))
    | refine op_nil ?_ | refine next_normal ?_ | refine go_seq ?_ | refine go_region ?_ | refine go_skip ?_ | refine go_block ?_ | refine inb_normal ?_
    | (apply go_yes; (case hc => simp [hlt', hA])) | (apply go_no; (case hc => simp [hlt', hA]))
    | refine go_exit ?_ | refine next_exit ?_ | refine inb_here ?_ | refine inb_past (by decide) ?_ | refine go_ret ?_ | refine next_ret ?_ | refine inb_ret ?_))
      (apply ends_ok; (case h1 => simp; exact is_rfl); (case h2 => simp; exact is_rfl))
      simp
end Go.Abs

namespace Go.Abs
open Go.Proofs
set_option maxRecDepth 100000
set_option linter.unusedSimpArgs false

theorem diffL_one {S T : List (List UInt8)} {i : Nat} (h : ∀ j, j ≠ i → S[j]? = T[j]?) : ∀ n, diffL S T n = if i < n ∧ S[i]? ≠ T[i]? then [(i : Int)] else []
  | 0 => by simp [diffL]
  | n + 1 => by
    rw [diffL_succ, diffL_one h n]
    by_cases hn : n = i
    · subst hn
      by_cases h2 : S[n]? = T[n]?
      · simp [h2]
      · simp [h2]
    · rw [if_pos (h n hn)]
      have : i < n + 1 ↔ i < n := by omega
      simp only [this]
theorem diffA_put (S : List (List UInt8)) (w : Int × List UInt8) (h0 : 0 ≤ w.1) : diffA S (putS S w) = [] ∨ diffA S (putS S w) = [w.1] := by
  have h : ∀ j, j ≠ w.1.toNat → S[j]? = (putS S w)[j]? := fun j hj => by unfold putS; rw [List.getElem?_set_ne (Ne.symm hj)]
  rw [diffA, diffL_one h]
  split
  · exact .inr (by rw [Int.toNat_of_nonneg h0])
  · exact .inl rfl
theorem RightP_put {S : List (List UInt8)} {B : List Int} {w : Int × List UInt8} (h : RightP S B) (hw : w.2.length ≤ 128) : RightP (putS S w) B := by
  obtain ⟨h1, h2, h3, h4, h5⟩ := h
  refine ⟨by rw [putS_length]; exact h1, by rw [putS_length]; exact h2, fun s hs => ?_, by rw [putS_length]; exact h4, h5⟩
  unfold putS at hs
  rcases List.mem_or_eq_of_mem_set hs with hs | rfl
  · exact h3 s hs
  · simp; omega
theorem readS_put {S : List (List UInt8)} {B : List Int} {w : Int × List UInt8} (h : faultI S.length B w = 0) : readS (putS S w) B w.1 = (w.2 ++ List.replicate (128 - w.2.length) 0, 0) := by
  obtain ⟨h1, h2, h3⟩ := faultI_zero.1 h
  have hl : w.1.toNat < S.length := by omega
  unfold readS
  rw [putS_length, if_pos h1, if_neg h3]
  simp [putS, hl]

end Go.Abs

namespace Go.Abs
open Go.Proofs
set_option maxRecDepth 100000
set_option linter.unusedSimpArgs false
set_option linter.unusedVariables false

theorem word_put2 {n : Int} (h : 0 ≤ n) (h2 : n ≤ 65535) : word (UInt8.ofNat (n.toNat % 256)) (UInt8.ofNat (n.toNat / 256 % 256)) = n := by
  unfold word
  simp
  omega
/-- What is encoded is read. -/
theorem parse_bytes {k l z : Int} {L : List Int} (hL : L.length = 8) (h : validI k l z L) : parseV (bytesI k l z L) = inoV k l z L ∧ parseE (bytesI k l z L) = 0 := by
  match L, hL with
  | [a, b, c, d, e, f, g, h'], hL =>
    have hr : (0 ≤ k ∧ k ≤ 65535) ∧ (0 ≤ l ∧ l ≤ 65535) ∧ (0 ≤ z ∧ z ≤ 65535) ∧ (0 ≤ a ∧ a ≤ 65535) ∧ (0 ≤ b ∧ b ≤ 65535) ∧ (0 ≤ c ∧ c ≤ 65535) ∧ (0 ≤ d ∧ d ≤ 65535) ∧ (0 ≤ e ∧ e ≤ 65535) ∧ (0 ≤ f ∧ f ≤ 65535) ∧ (0 ≤ g ∧ g ≤ 65535) ∧ (0 ≤ h' ∧ h' ≤ 65535) := by
      unfold validI at h
      split at h
      · simp [List.replicate] at h; omega
      · obtain ⟨h1, h2, h3, h4, h5, h6⟩ := h
        have p := fun i (hi : i < 8) => h6 i (List.mem_range.2 hi)
        have p0 := p 0 (by decide); have p1 := p 1 (by decide); have p2 := p 2 (by decide); have p3 := p 3 (by decide)
        have p4 := p 4 (by decide); have p5 := p 5 (by decide); have p6 := p 6 (by decide); have p7 := p 7 (by decide)
        simp at p0 p1 p2 p3 p4 p5 p6 p7
        omega
    obtain ⟨r0, r1, r2, r3, r4, r5, r6, r7, r8, r9, r10⟩ := hr
    have w0 := word_put2 r0.1 r0.2; have w1 := word_put2 r1.1 r1.2; have w2 := word_put2 r2.1 r2.2; have w3 := word_put2 r3.1 r3.2; have w4 := word_put2 r4.1 r4.2
    have w5 := word_put2 r5.1 r5.2; have w6 := word_put2 r6.1 r6.2; have w7 := word_put2 r7.1 r7.2; have w8 := word_put2 r8.1 r8.2; have w9 := word_put2 r9.1 r9.2; have w10 := word_put2 r10.1 r10.2
    have e0 : wd (bytesI k l z [a, b, c, d, e, f, g, h']) 0 = k := w0
    have e1 : wd (bytesI k l z [a, b, c, d, e, f, g, h']) 1 = l := w1
    have e2 : wd (bytesI k l z [a, b, c, d, e, f, g, h']) 2 = z := w2
    have e3 : wd (bytesI k l z [a, b, c, d, e, f, g, h']) 3 = a := w3
    have e4 : wd (bytesI k l z [a, b, c, d, e, f, g, h']) 4 = b := w4
    have e5 : wd (bytesI k l z [a, b, c, d, e, f, g, h']) 5 = c := w5
    have e6 : wd (bytesI k l z [a, b, c, d, e, f, g, h']) 6 = d := w6
    have e7 : wd (bytesI k l z [a, b, c, d, e, f, g, h']) 7 = e := w7
    have e8 : wd (bytesI k l z [a, b, c, d, e, f, g, h']) 8 = f := w8
    have e9 : wd (bytesI k l z [a, b, c, d, e, f, g, h']) 9 = g := w9
    have e10 : wd (bytesI k l z [a, b, c, d, e, f, g, h']) 10 = h' := w10
    have eL : wdL (bytesI k l z [a, b, c, d, e, f, g, h']) = [a, b, c, d, e, f, g, h'] := by
      unfold wdL
      rw [e3, e4, e5, e6, e7, e8, e9, e10]
    have ho : okS (bytesI k l z [a, b, c, d, e, f, g, h']) := ⟨bytesI_length hL, by rw [e0, e1, e2, eL]; exact h, by rw [e0, e1, e2, eL]⟩
    unfold parseV parseE
    rw [if_pos ho, if_pos ho, e0, e1, e2, eL]
    exact ⟨rfl, rfl⟩

theorem getD_putS {S : List (List UInt8)} {w : Int × List UInt8} {j : Nat} (h : j ≠ w.1.toNat) : (putS S w).getD j [] = S.getD j [] := by
  unfold putS
  rw [List.getD_eq_getElem?_getD, List.getD_eq_getElem?_getD, List.getElem?_set_ne (Ne.symm h)]
theorem putS_vol {S : List (List UInt8)} {B : List Int} {w : Int × List UInt8} (h : VolP S B) (h1 : 1 ≤ w.1) (hw : w.2.length ≤ 128) : VolP (putS S w) B ∧ swapW (putS S w) = swapW S := by
  have h0 : (putS S w).getD 0 [] = S.getD 0 [] := getD_putS (by omega)
  have hs : swapW (putS S w) = swapW S := by unfold swapW; rw [h0]
  exact ⟨⟨RightP_put h.1 hw, by rw [putS_length]; exact h.2.1, h.2.2.1, by rw [hs, putS_length]; exact h.2.2.2.1, by rw [h0, hs, putS_length]; exact h.2.2.2.2⟩, hs⟩
theorem readS_other {S : List (List UInt8)} {B : List Int} {w : Int × List UInt8} {m : Int} (h0 : 0 ≤ w.1) (h : m ≠ w.1) : readS (putS S w) B m = readS S B m := by
  unfold readS
  rw [putS_length]
  split
  · rename_i h2
    rw [getD_putS (by omega)]
  · rfl
/-- What the write of an inode is. -/
theorem put_ok {S : List (List UInt8)} {B : List Int} {n k l z : Int} {L : List Int} (hL : L.length = 8) (h : (putW S B n k l z L).2 = 0) :
    VolP S B ∧ 1 ≤ n ∧ n < 32 ∧ validI k l z L ∧ (readS S B (19 + n / 4)).2 = 0 ∧ (readS S B (19 + n / 4)).1.length = 128 ∧ faultI S.length B (putW S B n k l z L).1 = 0 ∧ (putW S B n k l z L).1.2.length = 128 ∧
      (putW S B n k l z L).1 = (19 + n / 4, (readS S B (19 + n / 4)).1.take (n.toNat % 4 * 32) ++ (bytesI k l z L ++ (readS S B (19 + n / 4)).1.drop (n.toNat % 4 * 32 + 32))) := by
  unfold putW at h ⊢
  by_cases h1 : (secS S B n).2 = 0
  case neg => rw [if_neg h1] at h; exact absurd h h1
  rw [if_pos h1] at h ⊢
  by_cases h2 : validI k l z L
  case neg => rw [if_neg h2] at h; exact absurd h (by simp)
  rw [if_pos h2]
  unfold secS at h1 ⊢
  by_cases hv : VolP S B
  case neg => rw [if_neg hv] at h1; exact absurd h1 (by simp)
  rw [if_pos hv] at h1 ⊢
  by_cases hn : 1 ≤ n ∧ n < 32
  case neg => rw [if_neg hn] at h1; exact absurd h1 (by simp)
  rw [if_pos hn] at h1 ⊢
  have hlen : (readS S B (19 + n / 4)).1.length = 128 ∧ 0 ≤ 19 + n / 4 ∧ 19 + n / 4 < S.length ∧ 19 + n / 4 ∉ B := by
    unfold readS at h1 ⊢
    by_cases h3 : 0 ≤ 19 + n / 4 ∧ 19 + n / 4 < S.length
    case neg => rw [if_neg h3] at h1; exact absurd h1 (by simp)
    rw [if_pos h3] at h1 ⊢
    by_cases h4 : 19 + n / 4 ∈ B
    · rw [if_pos h4] at h1; exact absurd h1 (by simp)
    · rw [if_neg h4]
      have hlt : (19 + n / 4).toNat < S.length := by omega
      exact ⟨by rw [getD_at hlt]; exact hv.1.2.2.1 _ (List.getElem_mem hlt), h3.1, h3.2, h4⟩
  have hd : ((readS S B (19 + n / 4)).1.take (n.toNat % 4 * 32) ++ (bytesI k l z L ++ (readS S B (19 + n / 4)).1.drop (n.toNat % 4 * 32 + 32))).length = 128 := by
    rw [List.length_append, List.length_append, List.length_take, List.length_drop, bytesI_length hL, hlen.1]
    omega
  exact ⟨hv, hn.1, hn.2, h2, h1, hlen.1, faultI_zero.2 ⟨⟨hlen.2.1, hlen.2.2.1⟩, by rw [hd]; exact Nat.le_refl _, hlen.2.2.2⟩, hd, rfl⟩
theorem secS_put {S : List (List UInt8)} {B : List Int} {w : Int × List UInt8} (hv : VolP S B) (h1 : 1 ≤ w.1) (hw : w.2.length = 128) (hf : faultI S.length B w = 0) (i : Int) :
    secS (putS S w) B i = if 1 ≤ i ∧ i < 32 ∧ 19 + i / 4 = w.1 then (w.2, 0) else secS S B i := by
  obtain ⟨hv', _⟩ := putS_vol hv h1 (by omega)
  unfold secS
  rw [if_pos hv', if_pos hv]
  by_cases h2 : 1 ≤ i ∧ i < 32
  · by_cases h3 : 19 + i / 4 = w.1
    · rw [if_pos h2, if_pos ⟨h2.1, h2.2, h3⟩, h3, readS_put hf, hw]
      simp
    · rw [if_pos h2, if_neg (fun h => h3 h.2.2), if_pos h2, readS_other (by omega) h3]
  · rw [if_neg h2, if_neg (fun h => h2 ⟨h.1, h.2.1⟩), if_neg h2]
theorem slot_same (s b : List UInt8) (o : Nat) (ho : o + 32 ≤ s.length) (hb : b.length = 32) : ((s.take o ++ (b ++ s.drop (o + 32))).drop o).take 32 = b := by
  rw [List.drop_append_of_le_length (by rw [List.length_take]; omega), List.drop_eq_nil_of_le (by rw [List.length_take]; omega), List.nil_append, List.take_append_of_le_length (by omega), List.take_of_length_le (by omega)]
theorem slot_other (s b : List UInt8) (o o' : Nat) (ho : o + 32 ≤ s.length) (hb : b.length = 32) (h : o' + 32 ≤ o ∨ o + 32 ≤ o') : ((s.take o ++ (b ++ s.drop (o + 32))).drop o').take 32 = (s.drop o').take 32 := by
  apply List.ext_getElem?
  intro j
  by_cases hj : j < 32
  · rw [List.getElem?_take_of_lt hj, List.getElem?_take_of_lt hj, List.getElem?_drop, List.getElem?_drop]
    rcases h with h | h
    · rw [List.getElem?_append_left (by rw [List.length_take]; omega), List.getElem?_take_of_lt (by omega)]
    · rw [List.getElem?_append_right (by rw [List.length_take]; omega), List.getElem?_append_right (by rw [List.length_take]; omega), List.getElem?_drop, List.length_take, hb]
      congr 1
      omega
  · rw [List.getElem?_eq_none (by rw [List.length_take]; omega), List.getElem?_eq_none (by rw [List.length_take]; omega)]
/-- After the write of an inode. -/
theorem get_put {S : List (List UInt8)} {B : List Int} {n k l z : Int} {L : List Int} (hL : L.length = 8) (h : (putW S B n k l z L).2 = 0) (i : Int) :
    getV (putS S (putW S B n k l z L).1) B i = (if i = n then inoV k l z L else getV S B i) ∧ getE (putS S (putW S B n k l z L).1) B i = if i = n then 0 else getE S B i := by
  obtain ⟨hv, hn1, hn2, hval, hr, hlen, hf, hw, he⟩ := put_ok hL h
  have hs := secS_put hv (by rw [he]; dsimp only; omega) hw hf i
  have hself : secS S B n = readS S B (19 + n / 4) := by unfold secS; rw [if_pos hv, if_pos ⟨hn1, hn2⟩]
  generalize putW S B n k l z L = p at h hf hw he hs
  generalize hrr : readS S B (19 + n / 4) = r at hr hlen he hself
  have hB := bytesI_length (k := k) (l := l) (z := z) hL
  have ho : n.toNat % 4 * 32 + 32 ≤ r.1.length := by omega
  unfold getV getE inoS
  by_cases hi : i = n
  · rw [if_pos hi, if_pos hi]
    subst hi
    rw [he] at hs
    rw [if_pos ⟨hn1, hn2, rfl⟩] at hs
    rw [he, hs]
    dsimp only
    rw [if_pos rfl, if_pos rfl, slot_same _ _ _ ho hB]
    exact parse_bytes hL hval
  · rw [if_neg hi, if_neg hi, hs]
    by_cases h3 : 1 ≤ i ∧ i < 32 ∧ 19 + i / 4 = p.1.1
    · rw [if_pos h3]
      have h4 : 19 + i / 4 = 19 + n / 4 := by have := h3.2.2; rw [he] at this; exact this
      have hi' : secS S B i = r := by unfold secS; rw [if_pos hv, if_pos ⟨h3.1, h3.2.1⟩, h4, hrr]
      rw [hi', hr, he]
      dsimp only
      rw [if_pos rfl, if_pos rfl, slot_other _ _ _ _ ho hB (by omega)]
      exact ⟨rfl, rfl⟩
    · rw [if_neg h3]
      exact ⟨rfl, rfl⟩
end Go.Abs

namespace Go.Abs
open Go.Proofs
set_option maxRecDepth 100000
set_option linter.unusedSimpArgs false
set_option linter.unusedVariables false

theorem made_eq (S : List (List UInt8)) (B : List Int) (hS : S.length ≤ 1000000) (hB : B.length ≤ 1000000) (w : Int × List UInt8) (h : faultI S.length B w = 0) :
    bodyW DC 31 [drv S B, wrV w] [] = some (.tuple [.agg [.own 0 S.length 0 S.length, .own 1 B.length 0 B.length], .bool true], [.dat true 1 (strs (putS S w)), .dat true 1 (ints B)]) := by
  have hA := Apply_eq S B hS hB [w] (by simp) (-1)
  have e : applyS B (-1) S 0 [w] = (putS S w, 1, 0) := by
    simp only [applyS]
    rw [if_neg (by decide), if_pos h]
  rw [e] at hA
  simp only [List.map_cons, List.map_nil] at hA
  (refine gives_iff ?_; refine go_func Try.f31 rfl rfl (by simp [Try.f31]) ?_; dsimp only [codeL, Try.f31, scL, sopsL, guardL, dstAt, loopKey])
  (repeat (first
    | (apply is_ok; (case hw => simp [hA]); (case he => simp [hA]; exact is_rfl))
    | (apply op_no; (case hw => simp [hA]))
    | refine op_nil ?_ | refine next_normal ?_ | refine go_seq ?_ | refine go_region ?_ | refine go_skip ?_ | refine go_block ?_ | refine inb_normal ?_
    | (apply go_yes; (case hc => simp [hA])) | (apply go_no; (case hc => simp [hA]))
    | refine go_exit ?_ | refine next_exit ?_ | refine inb_here ?_ | refine inb_past (by decide) ?_ | refine go_ret ?_ | refine next_ret ?_ | refine inb_ret ?_))
  (apply ends_ok; (case h1 => simp; exact is_rfl); (case h2 => simp; exact is_rfl))
  simp

set_option maxHeartbeats 4000000 in
theorem InodeReturns_eq (S : List (List UInt8)) (B : List Int) (hS : S.length ≤ maxLen) (hB : B.length ≤ maxLen) (n k l z : Int) (L : List Int) (hL : L.length = 8) (hX : In64 (k :: l :: z :: L)) :
    bodyW DC 7 [drv S B, .int .i64 n, inoV k l z L] [] = some (.bool true, []) := by
  have hM := small38_eq S B hS
  by_cases hs : SmallD S B
  case neg =>
    (refine gives_iff ?_; refine go_func Try.f7 rfl rfl (by simp [Try.f7]) ?_; dsimp only [codeL, Try.f7, scL, sopsL, guardL, dstAt, loopKey])
    (repeat (first
    | (apply is_ok; (case hw => simp [hL, hM, hs]); (case he => simp [hL, hM, hs]; exact is_rfl))
    | (apply op_no; (case hw => simp [hL, hM, hs]))
    | refine op_nil ?_ | refine next_normal ?_ | refine go_seq ?_ | refine go_region ?_ | refine go_skip ?_ | refine go_block ?_ | refine inb_normal ?_
    | (apply go_yes; (case hc => simp [hL, hM, hs])) | (apply go_no; (case hc => simp [hL, hM, hs]))
    | refine go_exit ?_ | refine next_exit ?_ | refine inb_here ?_ | refine inb_past (by decide) ?_ | refine go_ret ?_ | refine next_ret ?_ | refine inb_ret ?_))
    (apply ends_ok; (case h1 => simp; exact is_rfl); (case h2 => simp; exact is_rfl))
    simp
  have hRt := RightR_eq S B hB
  by_cases hr : RightP S B
  case neg =>
    (refine gives_iff ?_; refine go_func Try.f7 rfl rfl (by simp [Try.f7]) ?_; dsimp only [codeL, Try.f7, scL, sopsL, guardL, dstAt, loopKey])
    (repeat (first
    | (apply is_ok; (case hw => simp [hL, hM, hs, hRt, hr]); (case he => simp [hL, hM, hs, hRt, hr]; exact is_rfl))
    | (apply op_no; (case hw => simp [hL, hM, hs, hRt, hr]))
    | refine op_nil ?_ | refine next_normal ?_ | refine go_seq ?_ | refine go_region ?_ | refine go_skip ?_ | refine go_block ?_ | refine inb_normal ?_
    | (apply go_yes; (case hc => simp [hL, hM, hs, hRt, hr])) | (apply go_no; (case hc => simp [hL, hM, hs, hRt, hr]))
    | refine go_exit ?_ | refine next_exit ?_ | refine inb_here ?_ | refine inb_past (by decide) ?_ | refine go_ret ?_ | refine next_ret ?_ | refine inb_ret ?_))
    (apply ends_ok; (case h1 => simp; exact is_rfl); (case h2 => simp; exact is_rfl))
    simp
  have hA := alive38_eq
  have hP := Put38_eq S B hB n k l z L hL hX
  by_cases he : (putW S B n k l z L).2 = 0
  case neg =>
    have h0 : (putW S B n k l z L).1 = (0, []) := by
      unfold putW at he ⊢
      split at he
      · rename_i h1
        rw [if_pos h1]
        split at he
        · exact absurd rfl he
        · rename_i h2
          rw [if_neg h2]
      · rename_i h1
        rw [if_neg h1]
    rw [h0] at hP
    have hE2 := same_wr 0 []
    (refine gives_iff ?_; refine go_func Try.f7 rfl rfl (by simp [Try.f7]) ?_; dsimp only [codeL, Try.f7, scL, sopsL, guardL, dstAt, loopKey])
    (repeat (first
    | (apply is_ok; (case hw => simp [-binV, hL, hM, hs, hRt, hr, hP, he, hA, hE2]); (case he => simp [-binV, hL, hM, hs, hRt, hr, hP, he, hA, hE2]; exact is_rfl))
    | (apply op_no; (case hw => simp [-binV, hL, hM, hs, hRt, hr, hP, he, hA, hE2]))
    | refine op_nil ?_ | refine next_normal ?_ | refine go_seq ?_ | refine go_region ?_ | refine go_skip ?_ | refine go_block ?_ | refine inb_normal ?_
    | (apply go_yes; (case hc => simp [-binV, hL, hM, hs, hRt, hr, hP, he, hA, hE2])) | (apply go_no; (case hc => simp [-binV, hL, hM, hs, hRt, hr, hP, he, hA, hE2]))
    | refine go_exit ?_ | refine next_exit ?_ | refine inb_here ?_ | refine inb_past (by decide) ?_ | refine go_ret ?_ | refine next_ret ?_ | refine inb_ret ?_))
    (apply ends_ok; (case h1 => simp; exact is_rfl); (case h2 => simp; exact is_rfl))
    simp
  obtain ⟨hv, hn1, hn2, hval, hrd, hlen, hf, hw, _⟩ := put_ok hL he
  have hgp := fun i => get_put hL he i
  have b1 : S.length ≤ 1000000 := by have := hs.2.1; omega
  have b2 : B.length ≤ 1000000 := by have := hs.2.2; omega
  have hMd := made_eq S B b1 b2 _ hf
  have hG := fun i => Get38_eq (putS S (putW S B n k l z L).1) B hB i
  simp only [hgp] at hG
  rw [he] at hP
  have hl' : (strs (putS S (putW S B n k l z L).1)).length = S.length := by simp [putS_length]
  generalize hT : putS S (putW S B n k l z L).1 = T at hMd hG hl'
  generalize putW S B n k l z L = p at hP hMd hw
  have hGn := hG n
  rw [if_pos rfl, if_pos rfl] at hGn
  have hBy := Bytes_eq k l z L hL hX
  have hPs := Parse_eq (bytesI k l z L)
  rw [(parse_bytes hL hval).1, (parse_bytes hL hval).2] at hPs
  have hE := eq_ino k l z k l z L L hL hL
  rw [decide_eq_true ⟨rfl, rfl, rfl, rfl⟩] at hE
  obtain ⟨hE1, hE2⟩ := hE
  (refine gives_iff ?_; refine go_func Try.f7 rfl rfl (by simp [Try.f7]) ?_; dsimp only [codeL, Try.f7, scL, sopsL, guardL, dstAt, loopKey])
  (repeat (first
    | (apply is_ok; (case hw => simp [-binV, hL, hM, hs, hRt, hr, hP, hMd, hl', hGn, hE1, hE2]); (case he => simp [-binV, hL, hM, hs, hRt, hr, hP, hMd, hl', hGn, hE1, hE2]; exact is_rfl))
    | (apply op_no; (case hw => simp [-binV, hL, hM, hs, hRt, hr, hP, hMd, hl', hGn, hE1, hE2]))
    | refine op_nil ?_ | refine next_normal ?_ | refine go_seq ?_ | refine go_region ?_ | refine go_skip ?_ | refine go_block ?_ | refine inb_normal ?_
    | (apply go_yes; (case hc => simp [-binV, hL, hM, hs, hRt, hr, hP, hMd, hl', hGn, hE1, hE2])) | (apply go_no; (case hc => simp [-binV, hL, hM, hs, hRt, hr, hP, hMd, hl', hGn, hE1, hE2]))
    | refine go_exit ?_ | refine next_exit ?_ | refine inb_here ?_ | refine inb_past (by decide) ?_ | refine go_ret ?_ | refine next_ret ?_ | refine inb_ret ?_))
  refine go_count 31 (fun i => [(1, .int .i64 n), (3, .ptr 0 1 0 0), (5, .ptr 1 1 0 0), (9, .ptr 2 1 0 0), (13, .int .i64 ((i + 1 : Nat) : Int))])
    (fun i => [.box (drv S B), .box (inoV k l z L), .box (.agg [.own 3 S.length 0 S.length, .own 4 B.length 0 B.length]), .dat true 1 (strs T), .dat true 1 (ints B)]) (fun _ => True) (by simp) trivial fun i hi _ => ?_
  generalize hj : i + 1 = j
  have hw' : IntKind.i64.wrap ((j : Int) + 1) = ((j + 1 : Nat) : Int) := wrap_id (by omega) (by omega)
  by_cases hlt : j < 32
  · have hlt' : (j : Int) < 32 := by omega
    have hG1 := Get38_eq S B hB j
    have hG2 := hG j
    by_cases hjn : (j : Int) = n
    · rw [if_pos hjn, if_pos hjn] at hG2
      obtain ⟨k', l', z', a, b, c, d, e', f, g, h, hsh, _⟩ := getV_shape S B j
      rw [hsh] at hG1
      subst hjn
      (repeat (first
    | (apply is_ok; (case hw => simp [-binV, binV_ii, hL, hlt', hl', hG1, hG2]); (case he => simp [-binV, binV_ii, hL, hlt', hl', hG1, hG2]; exact is_rfl))
    | (apply op_no; (case hw => simp [-binV, binV_ii, hL, hlt', hl', hG1, hG2]))
    | refine op_nil ?_ | refine next_normal ?_ | refine go_seq ?_ | refine go_region ?_ | refine go_skip ?_ | refine go_block ?_ | refine inb_normal ?_
    | (apply go_yes; (case hc => simp [-binV, binV_ii, hL, hlt', hl', hG1, hG2])) | (apply go_no; (case hc => simp [-binV, binV_ii, hL, hlt', hl', hG1, hG2]))
    | refine go_exit ?_ | refine next_exit ?_ | refine inb_here ?_ | refine inb_past (by decide) ?_ | refine go_ret ?_ | refine next_ret ?_ | refine inb_ret ?_))
      exact ⟨by omega, by simp [hw', hj], trivial⟩
    · rw [if_neg hjn, if_neg hjn] at hG2
      obtain ⟨k', l', z', a, b, c, d, e', f, g, h, hsh, _⟩ := getV_shape S B j
      rw [hsh] at hG1 hG2
      have hE' := (eq_ino k' l' z' k' l' z' [a, b, c, d, e', f, g, h] [a, b, c, d, e', f, g, h] rfl rfl).2
      rw [decide_eq_true ⟨rfl, rfl, rfl, rfl⟩] at hE'
      simp only [inoV, ints, List.map_cons, List.map_nil] at hE'
      generalize getE S B j = ge at hG1 hG2
      (repeat (first
    | (apply is_ok; (case hw => simp [-binV, binV_ii, hL, hlt', hl', hG1, hG2, hjn, hE']); (case he => simp [-binV, binV_ii, hL, hlt', hl', hG1, hG2, hjn, hE']; exact is_rfl))
    | (apply op_no; (case hw => simp [-binV, binV_ii, hL, hlt', hl', hG1, hG2, hjn, hE']))
    | refine op_nil ?_ | refine next_normal ?_ | refine go_seq ?_ | refine go_region ?_ | refine go_skip ?_ | refine go_block ?_ | refine inb_normal ?_
    | (apply go_yes; (case hc => simp [-binV, binV_ii, hL, hlt', hl', hG1, hG2, hjn, hE'])) | (apply go_no; (case hc => simp [-binV, binV_ii, hL, hlt', hl', hG1, hG2, hjn, hE']))
    | refine go_exit ?_ | refine next_exit ?_ | refine inb_here ?_ | refine inb_past (by decide) ?_ | refine go_ret ?_ | refine next_ret ?_ | refine inb_ret ?_))
      exact ⟨by omega, by simp [hw', hj], trivial⟩
  · have hlt' : ¬ (j : Int) < 32 := by omega
    (repeat (first
    | (apply is_ok; (case hw => simp [-binV, binV_ii, hL, hlt', hBy, hPs, hE1, hA]); (case he => simp [-binV, binV_ii, hL, hlt', hBy, hPs, hE1, hA]; exact is_rfl))
    | (apply op_no; (case hw => simp [-binV, binV_ii, hL, hlt', hBy, hPs, hE1, hA]))
    | refine op_nil ?_ | refine next_normal ?_ | refine go_seq ?_ | refine go_region ?_ | refine go_skip ?_ | refine go_block ?_ | refine inb_normal ?_
    | (apply go_yes; (case hc => simp [-binV, binV_ii, hL, hlt', hBy, hPs, hE1, hA])) | (apply go_no; (case hc => simp [-binV, binV_ii, hL, hlt', hBy, hPs, hE1, hA]))
    | refine go_exit ?_ | refine next_exit ?_ | refine inb_here ?_ | refine inb_past (by decide) ?_ | refine go_ret ?_ | refine next_ret ?_ | refine inb_ret ?_))
    (apply ends_ok; (case h1 => simp; exact is_rfl); (case h2 => simp; exact is_rfl))
    simp
end Go.Abs

namespace Go.Abs
open Go.Proofs
set_option maxRecDepth 100000
set_option linter.unusedSimpArgs false
set_option linter.unusedVariables false

theorem Has_eq (l : List Int) (hl : l.length ≤ 1000000) (x : Int) : bodyW DC 32 [.sl (ints l), .int .i64 x] [] = some (.bool (decide (x ∈ l)), []) := by
  (refine gives_iff ?_; refine go_func Try.f32 rfl rfl (by simp [Try.f32]) ?_; dsimp only [codeL, Try.f32, scL, sopsL, guardL, dstAt, loopKey])
  (repeat (first
    | (apply is_ok; (case hw => simp); (case he => simp; exact is_rfl))
    | (apply op_no; (case hw => simp))
    | refine op_nil ?_ | refine next_normal ?_ | refine go_seq ?_ | refine go_region ?_ | refine go_skip ?_ | refine go_block ?_ | refine inb_normal ?_
    | (apply go_yes; (case hc => simp)) | (apply go_no; (case hc => simp))
    | refine go_exit ?_ | refine next_exit ?_ | refine inb_here ?_ | refine inb_past (by decide) ?_ | refine go_ret ?_ | refine next_ret ?_ | refine inb_ret ?_))
  refine go_count l.length (fun i => [(0, .sl (ints l)), (1, .int .i64 x), (5, .int .i64 i)]) (fun _ => []) (fun i => ∀ y ∈ l.take i, y ≠ x) (by simp) (by simp) fun i hi hI => ?_
  have hw : IntKind.i64.wrap ((i : Int) + 1) = ((i + 1 : Nat) : Int) := wrap_id (by omega) (by omega)
  by_cases hlt : i < l.length
  · by_cases hx : l[i] = x
    · have hm : x ∈ l := by rw [← hx]; exact List.getElem_mem hlt
      (repeat (first
    | (apply is_ok; (case hw => simp [hlt, hx]); (case he => simp [hlt, hx]; exact is_rfl))
    | (apply op_no; (case hw => simp [hlt, hx]))
    | refine op_nil ?_ | refine next_normal ?_ | refine go_seq ?_ | refine go_region ?_ | refine go_skip ?_ | refine go_block ?_ | refine inb_normal ?_
    | (apply go_yes; (case hc => simp [hlt, hx])) | (apply go_no; (case hc => simp [hlt, hx]))
    | refine go_exit ?_ | refine next_exit ?_ | refine inb_here ?_ | refine inb_past (by decide) ?_ | refine go_ret ?_ | refine next_ret ?_ | refine inb_ret ?_))
      (apply ends_ok; (case h1 => simp; exact is_rfl); (case h2 => simp; exact is_rfl))
      simp [hm]
    · (repeat (first
    | (apply is_ok; (case hw => simp [hlt, hx]); (case he => simp [hlt, hx]; exact is_rfl))
    | (apply op_no; (case hw => simp [hlt, hx]))
    | refine op_nil ?_ | refine next_normal ?_ | refine go_seq ?_ | refine go_region ?_ | refine go_skip ?_ | refine go_block ?_ | refine inb_normal ?_
    | (apply go_yes; (case hc => simp [hlt, hx])) | (apply go_no; (case hc => simp [hlt, hx]))
    | refine go_exit ?_ | refine next_exit ?_ | refine inb_here ?_ | refine inb_past (by decide) ?_ | refine go_ret ?_ | refine next_ret ?_ | refine inb_ret ?_))
      refine ⟨hlt, by simp [hw], fun y hy => ?_⟩
      rw [List.take_succ_eq_append_getElem hlt] at hy
      rcases List.mem_append.1 hy with hy | hy
      · exact hI y hy
      · rw [List.mem_singleton] at hy; rw [hy]; exact hx
  · rw [List.take_of_length_le (by omega)] at hI
    have hm : x ∉ l := fun h => hI x h rfl
    (repeat (first
    | (apply is_ok; (case hw => simp [hlt]); (case he => simp [hlt]; exact is_rfl))
    | (apply op_no; (case hw => simp [hlt]))
    | refine op_nil ?_ | refine next_normal ?_ | refine go_seq ?_ | refine go_region ?_ | refine go_skip ?_ | refine go_block ?_ | refine inb_normal ?_
    | (apply go_yes; (case hc => simp [hlt])) | (apply go_no; (case hc => simp [hlt]))
    | refine go_exit ?_ | refine next_exit ?_ | refine inb_here ?_ | refine inb_past (by decide) ?_ | refine go_ret ?_ | refine next_ret ?_ | refine inb_ret ?_))
    (apply ends_ok; (case h1 => simp; exact is_rfl); (case h2 => simp; exact is_rfl))
    simp [hm]

def chk2 (x r q : Nat) : Bool := (decide (markN x r true / 2 ^ q % 2 = if q = r then 1 else x / 2 ^ q % 2) && decide (markN x r false / 2 ^ q % 2 = if q = r then 0 else x / 2 ^ q % 2))
theorem chk2_all : ((List.range 256).all fun x => (List.range 8).all fun r => (List.range 8).all fun q => chk2 x r q) = true := by kernel_rfl
theorem chk2_at {x r q : Nat} (hx : x < 256) (hr : r < 8) (hq : q < 8) (u : Bool) : markN x r u / 2 ^ q % 2 = if q = r then (if u then 1 else 0) else x / 2 ^ q % 2 := by
  have h := List.all_eq_true.1 (List.all_eq_true.1 (List.all_eq_true.1 chk2_all x (List.mem_range.2 hx)) r (List.mem_range.2 hr)) q (List.mem_range.2 hq)
  unfold chk2 at h
  simp only [Bool.and_eq_true, decide_eq_true_eq] at h
  cases u
  · exact h.2
  · exact h.1
theorem markN_lt {x r : Nat} (hx : x < 256) (hr : r < 8) (u : Bool) : markN x r u < 256 := by
  have h := chk_at hx hr
  cases u
  · exact h.2.1
  · exact h.1
theorem bitB_mark (s : List UInt8) (m i : Nat) (u : Bool) (hm : m / 8 < s.length) : bitB (markS s m u) i = if i = m then u else bitB s i := by
  unfold bitB markS
  have hx := (s.getD (m / 8) 0).toNat_lt
  have hr : m % 8 < 8 := Nat.mod_lt _ (by omega)
  have hr' : i % 8 < 8 := Nat.mod_lt _ (by omega)
  by_cases h8 : i / 8 = m / 8
  · rw [h8]
    rw [List.getD_eq_getElem?_getD, List.getElem?_set_self hm, Option.getD_some]
    have hlt := markN_lt (x := (s.getD (m / 8) 0).toNat) (by omega) hr u
    rw [UInt8.toNat_ofNat_of_lt' hlt, chk2_at (by omega) hr hr' u]
    by_cases hi : i = m
    · subst hi
      rw [if_pos rfl, if_pos rfl]
      cases u <;> rfl
    · rw [if_neg hi, if_neg (by omega)]
  · rw [List.getD_eq_getElem?_getD, List.getElem?_set_ne (Ne.symm h8), ← List.getD_eq_getElem?_getD]
    rw [if_neg (by omega)]
theorem markF_ok {N : Int} {u : Bool} (hN : N ≤ 229) : ∀ {l : List Int} {s t : List UInt8}, s.length = 128 → markF N u s l = some t → t.length = 128 ∧ ∀ i : Nat, bitB t i = if (i : Int) ∈ l then u else bitB s i
  | [], s, t, hs, h => by
    simp [markF] at h
    subst h
    exact ⟨hs, fun i => by simp⟩
  | x :: l, s, t, hs, h => by
    rw [markF] at h
    split at h
    · rename_i hx
      obtain ⟨h1, h2⟩ := markF_ok hN (by rw [markS_length]; exact hs) h
      refine ⟨h1, fun i => ?_⟩
      rw [h2, bitB_mark s x.toNat i u (by omega)]
      by_cases hi : (i : Int) ∈ l
      · rw [if_pos hi, if_pos (List.mem_cons_of_mem _ hi)]
      · rw [if_neg hi]
        by_cases hix : i = x.toNat
        · rw [if_pos hix, if_pos (by rw [show (i : Int) = x by omega]; exact List.mem_cons_self ..)]
        · rw [if_neg hix, if_neg (by
            intro hm
            rcases List.mem_cons.1 hm with hm | hm
            · omega
            · exact hi hm)]
    · cases h
/-- After the write of a mark. -/
theorem mark_ok {S : List (List UInt8)} {B l : List Int} {u : Bool} (h : (markW S B l u).2 = 0) :
    VolP S B ∧ (mapS S B).2 = 0 ∧ faultI S.length B (markW S B l u).1 = 0 ∧ ∃ t, (markW S B l u).1 = (18, t) ∧ VolP (putS S (18, t)) B ∧ freeN (putS S (18, t)) = freeN S ∧ mapS (putS S (18, t)) B = (t, 0) ∧ t.length = 128 ∧ ∀ i : Nat, bitB t i = if (i : Int) ∈ l then u else bitB (mapS S B).1 i := by
  unfold markW at h ⊢
  by_cases h1 : (mapS S B).2 = 0
  case neg => rw [if_neg h1] at h; exact absurd h h1
  rw [if_pos h1] at h ⊢
  obtain ⟨hv, hl⟩ := map_ok h1
  have hN := (freeN_eq hv).2
  generalize ht : markF (freeN S) u (mapS S B).1 l = r at h ⊢
  match r, ht with
  | none, _ => cases h
  | some t, ht =>
    obtain ⟨h2, h3⟩ := markF_ok (by omega) hl ht
    have hvb := vol_bounds hv
    have hB18 : (18 : Int) ∉ B := by
      intro hm
      unfold mapS at h1
      rw [if_pos hv] at h1
      unfold readS at h1
      rw [if_pos (by omega), if_pos hm] at h1
      exact absurd h1 (by simp)
    have hf : faultI S.length B (18, t) = 0 := faultI_zero.2 ⟨⟨by dsimp only; omega, by dsimp only; omega⟩, by dsimp only; omega, hB18⟩
    obtain ⟨hv', hsw⟩ := putS_vol (w := (18, t)) hv (by dsimp only; omega) (by dsimp only; omega)
    refine ⟨hv, h1, hf, t, rfl, hv', by unfold freeN; rw [hsw, putS_length], ?_, h2, h3⟩
    unfold mapS
    rw [if_pos hv', readS_put hf]
    simp [h2]
theorem freeL_mem {s : List UInt8} {n : Nat} {x : Int} (h : x ∈ freeL s n) : ∃ m : Nat, x = m ∧ 27 ≤ m ∧ m < 27 + n ∧ bitB s m = false := by
  unfold freeL at h
  obtain ⟨i, h1, rfl⟩ := List.mem_map.1 h
  obtain ⟨h2, h3⟩ := List.mem_filter.1 h1
  have := List.mem_range.1 h2
  exact ⟨27 + i, rfl, by omega, by omega, by simpa using h3⟩
theorem freeL_sorted (s : List UInt8) (n : Nat) : (freeL s n).Pairwise (· < ·) := by
  unfold freeL
  refine List.Pairwise.map _ (fun a b (h : a < b) => ?_) (List.Pairwise.filter _ List.pairwise_lt_range)
  omega

set_option maxHeartbeats 4000000 in
theorem InodeKeeps_eq (S : List (List UInt8)) (B : List Int) (hS : S.length ≤ maxLen) (hB : B.length ≤ maxLen) (l : List Int) (hX : In64 l) (u : Bool) :
    bodyW DC 8 [drv S B, .sl (ints l), .bool u] [] = some (.bool true, []) := by
  have hM := small38_eq S B hS
  by_cases hs : SmallD S B
  case neg =>
    (refine gives_iff ?_; refine go_func Try.f8 rfl rfl (by simp [Try.f8]) ?_; dsimp only [codeL, Try.f8, scL, sopsL, guardL, dstAt, loopKey])
    (repeat (first
    | (apply is_ok; (case hw => simp [hM, hs]); (case he => simp [hM, hs]; exact is_rfl))
    | (apply op_no; (case hw => simp [hM, hs]))
    | refine op_nil ?_ | refine next_normal ?_ | refine go_seq ?_ | refine go_region ?_ | refine go_skip ?_ | refine go_block ?_ | refine inb_normal ?_
    | (apply go_yes; (case hc => simp [hM, hs])) | (apply go_no; (case hc => simp [hM, hs]))
    | refine go_exit ?_ | refine next_exit ?_ | refine inb_here ?_ | refine inb_past (by decide) ?_ | refine go_ret ?_ | refine next_ret ?_ | refine inb_ret ?_))
    (apply ends_ok; (case h1 => simp; exact is_rfl); (case h2 => simp; exact is_rfl))
    simp
  by_cases hl : l.length ≤ 300
  case neg =>
    have hl' : (300 : Int) < l.length := by omega
    (refine gives_iff ?_; refine go_func Try.f8 rfl rfl (by simp [Try.f8]) ?_; dsimp only [codeL, Try.f8, scL, sopsL, guardL, dstAt, loopKey])
    (repeat (first
    | (apply is_ok; (case hw => simp [hM, hs, hl']); (case he => simp [hM, hs, hl']; exact is_rfl))
    | (apply op_no; (case hw => simp [hM, hs, hl']))
    | refine op_nil ?_ | refine next_normal ?_ | refine go_seq ?_ | refine go_region ?_ | refine go_skip ?_ | refine go_block ?_ | refine inb_normal ?_
    | (apply go_yes; (case hc => simp [hM, hs, hl'])) | (apply go_no; (case hc => simp [hM, hs, hl']))
    | refine go_exit ?_ | refine next_exit ?_ | refine inb_here ?_ | refine inb_past (by decide) ?_ | refine go_ret ?_ | refine next_ret ?_ | refine inb_ret ?_))
    (apply ends_ok; (case h1 => simp; exact is_rfl); (case h2 => simp; exact is_rfl))
    simp
  have hl' : ¬ (300 : Int) < l.length := by omega
  have hRt := RightR_eq S B hB
  by_cases hr : RightP S B
  case neg =>
    (refine gives_iff ?_; refine go_func Try.f8 rfl rfl (by simp [Try.f8]) ?_; dsimp only [codeL, Try.f8, scL, sopsL, guardL, dstAt, loopKey])
    (repeat (first
    | (apply is_ok; (case hw => simp [hM, hs, hl', hRt, hr]); (case he => simp [hM, hs, hl', hRt, hr]; exact is_rfl))
    | (apply op_no; (case hw => simp [hM, hs, hl', hRt, hr]))
    | refine op_nil ?_ | refine next_normal ?_ | refine go_seq ?_ | refine go_region ?_ | refine go_skip ?_ | refine go_block ?_ | refine inb_normal ?_
    | (apply go_yes; (case hc => simp [hM, hs, hl', hRt, hr])) | (apply go_no; (case hc => simp [hM, hs, hl', hRt, hr]))
    | refine go_exit ?_ | refine next_exit ?_ | refine inb_here ?_ | refine inb_past (by decide) ?_ | refine go_ret ?_ | refine next_ret ?_ | refine inb_ret ?_))
    (apply ends_ok; (case h1 => simp; exact is_rfl); (case h2 => simp; exact is_rfl))
    simp
  have hA := alive38_eq
  have hP := Mark_eq S B hB l (by omega) hX u
  by_cases he : (markW S B l u).2 = 0
  case neg =>
    have h0 : (markW S B l u).1 = (0, []) := by
      unfold markW at he ⊢
      split
      · rename_i h1
        rw [if_pos h1] at he
        split at he
        · exact absurd rfl he
        · rfl
      · rfl
    rw [h0] at hP
    have hE2 := same_wr 0 []
    (refine gives_iff ?_; refine go_func Try.f8 rfl rfl (by simp [Try.f8]) ?_; dsimp only [codeL, Try.f8, scL, sopsL, guardL, dstAt, loopKey])
    (repeat (first
    | (apply is_ok; (case hw => simp [-binV, hM, hs, hl', hRt, hr, hP, he, hA, hE2]); (case he => simp [-binV, hM, hs, hl', hRt, hr, hP, he, hA, hE2]; exact is_rfl))
    | (apply op_no; (case hw => simp [-binV, hM, hs, hl', hRt, hr, hP, he, hA, hE2]))
    | refine op_nil ?_ | refine next_normal ?_ | refine go_seq ?_ | refine go_region ?_ | refine go_skip ?_ | refine go_block ?_ | refine inb_normal ?_
    | (apply go_yes; (case hc => simp [-binV, hM, hs, hl', hRt, hr, hP, he, hA, hE2])) | (apply go_no; (case hc => simp [-binV, hM, hs, hl', hRt, hr, hP, he, hA, hE2]))
    | refine go_exit ?_ | refine next_exit ?_ | refine inb_here ?_ | refine inb_past (by decide) ?_ | refine go_ret ?_ | refine next_ret ?_ | refine inb_ret ?_))
    (apply ends_ok; (case h1 => simp; exact is_rfl); (case h2 => simp; exact is_rfl))
    simp
  obtain ⟨hv, hmap, hf, t, ht, hv', hfN, hmap', htl, hbit⟩ := mark_ok he
  have b1 : S.length ≤ 1000000 := by have := hs.2.1; omega
  have b2 : B.length ≤ 1000000 := by have := hs.2.2; omega
  have hMd := made_eq S B b1 b2 _ hf
  rw [he] at hP
  rw [ht] at hP hMd
  have hm2 : (mapS (putS S (18, t)) B).2 = 0 := by rw [hmap']
  have hF := Free_ok (putS S (18, t)) B hB hm2
  rw [hfN, hmap'] at hF
  dsimp only at hF
  have hU := fun n => Used_eq (putS S (18, t)) B hB n
  have hUd := fun n => Used_eq S B hB n
  have huT : ∀ i : Nat, usedB (putS S (18, t)) B i = (decide (i < S.length) && bitB t i) := fun i => by
    unfold usedB
    rw [hmap', putS_length]
    simp
  have huS : ∀ i : Nat, usedB S B i = (decide (i < S.length) && bitB (mapS S B).1 i) := fun i => by
    unfold usedB
    rw [hmap]
    simp
  have hlS : (strs (putS S (18, t))).length = S.length := by simp [putS_length]
  generalize putS S (18, t) = T at hMd hF hU hlS huT
  have hfl := freeL_length t (freeN S)
  have hfm := fun x => freeL_mem (s := t) (n := freeN S) (x := x)
  have hfs := freeL_sorted t (freeN S)
  have hfn := (freeN_eq hv).2
  have hfS := (freeN_eq hv).1
  have hsw := vol_bounds hv
  generalize freeL t (freeN S) = F at hF hfl hfm hfs
  (refine gives_iff ?_; refine go_func Try.f8 rfl rfl (by simp [Try.f8]) ?_; dsimp only [codeL, Try.f8, scL, sopsL, guardL, dstAt, loopKey])
  (repeat (first
    | (apply is_ok; (case hw => simp [-binV, hM, hs, hl', hRt, hr, hP, hMd, hlS]); (case he => simp [-binV, hM, hs, hl', hRt, hr, hP, hMd, hlS]; exact is_rfl))
    | (apply op_no; (case hw => simp [-binV, hM, hs, hl', hRt, hr, hP, hMd, hlS]))
    | refine op_nil ?_ | refine next_normal ?_ | refine go_seq ?_ | refine go_region ?_ | refine go_skip ?_ | refine go_block ?_ | refine inb_normal ?_
    | (apply go_yes; (case hc => simp [-binV, hM, hs, hl', hRt, hr, hP, hMd, hlS])) | (apply go_no; (case hc => simp [-binV, hM, hs, hl', hRt, hr, hP, hMd, hlS]))
    | refine go_exit ?_ | refine next_exit ?_ | refine inb_here ?_ | refine inb_past (by decide) ?_ | refine go_ret ?_ | refine next_ret ?_ | refine inb_ret ?_))
  refine go_count S.length (fun i => [(1, .sl (ints l)), (2, .bool u), (3, .ptr 0 1 0 0), (9, .ptr 1 1 0 0), (11, .int .i64 i)])
    (fun i => [.box (drv S B), .box (.agg [.own 2 S.length 0 S.length, .own 3 B.length 0 B.length]), .dat true 1 (strs T), .dat true 1 (ints B)]) (fun _ => True) (by simp) trivial fun i hi _ => ?_
  have hw' : IntKind.i64.wrap ((i : Int) + 1) = ((i + 1 : Nat) : Int) := wrap_id (by omega) (by omega)
  by_cases hlt : i < S.length
  · have hH := Has_eq l (by omega) i
    have hU1 := hU i
    have hU2 := hUd i
    rw [huT i, decide_eq_true hlt, Bool.true_and, hbit i] at hU1
    rw [huS i, decide_eq_true hlt, Bool.true_and] at hU2
    by_cases hin : (i : Int) ∈ l
    · rw [decide_eq_true hin] at hH
      rw [if_pos hin] at hU1
      (repeat (first
    | (apply is_ok; (case hw => simp [-binV, binV_ii, binV_bb, hlt, hlS, hH, hU1, hU2]); (case he => simp [-binV, binV_ii, binV_bb, hlt, hlS, hH, hU1, hU2]; exact is_rfl))
    | (apply op_no; (case hw => simp [-binV, binV_ii, binV_bb, hlt, hlS, hH, hU1, hU2]))
    | refine op_nil ?_ | refine next_normal ?_ | refine go_seq ?_ | refine go_region ?_ | refine go_skip ?_ | refine go_block ?_ | refine inb_normal ?_
    | (apply go_yes; (case hc => simp [-binV, binV_ii, binV_bb, hlt, hlS, hH, hU1, hU2])) | (apply go_no; (case hc => simp [-binV, binV_ii, binV_bb, hlt, hlS, hH, hU1, hU2]))
    | refine go_exit ?_ | refine next_exit ?_ | refine inb_here ?_ | refine inb_past (by decide) ?_ | refine go_ret ?_ | refine next_ret ?_ | refine inb_ret ?_))
      exact ⟨hlt, by simp [hw'], trivial⟩
    · rw [decide_eq_false hin] at hH
      rw [if_neg hin] at hU1
      generalize bitB (mapS S B).1 i = bb at hU1 hU2
      (repeat (first
    | (apply is_ok; (case hw => simp [-binV, binV_ii, binV_bb, hlt, hlS, hH, hU1, hU2]); (case he => simp [-binV, binV_ii, binV_bb, hlt, hlS, hH, hU1, hU2]; exact is_rfl))
    | (apply op_no; (case hw => simp [-binV, binV_ii, binV_bb, hlt, hlS, hH, hU1, hU2]))
    | refine op_nil ?_ | refine next_normal ?_ | refine go_seq ?_ | refine go_region ?_ | refine go_skip ?_ | refine go_block ?_ | refine inb_normal ?_
    | (apply go_yes; (case hc => simp [-binV, binV_ii, binV_bb, hlt, hlS, hH, hU1, hU2])) | (apply go_no; (case hc => simp [-binV, binV_ii, binV_bb, hlt, hlS, hH, hU1, hU2]))
    | refine go_exit ?_ | refine next_exit ?_ | refine inb_here ?_ | refine inb_past (by decide) ?_ | refine go_ret ?_ | refine next_ret ?_ | refine inb_ret ?_))
      exact ⟨hlt, by simp [hw'], trivial⟩
  · (repeat (first
    | (apply is_ok; (case hw => simp [-binV, binV_ii, hlt, hlS, hF]); (case he => simp [-binV, binV_ii, hlt, hlS, hF]; exact is_rfl))
    | (apply op_no; (case hw => simp [-binV, binV_ii, hlt, hlS, hF]))
    | refine op_nil ?_ | refine next_normal ?_ | refine go_seq ?_ | refine go_region ?_ | refine go_skip ?_ | refine go_block ?_ | refine inb_normal ?_
    | (apply go_yes; (case hc => simp [-binV, binV_ii, hlt, hlS, hF])) | (apply go_no; (case hc => simp [-binV, binV_ii, hlt, hlS, hF]))
    | refine go_exit ?_ | refine next_exit ?_ | refine inb_here ?_ | refine inb_past (by decide) ?_ | refine go_ret ?_ | refine next_ret ?_ | refine inb_ret ?_))
    refine go_count F.length (fun i => [(9, .ptr 0 1 0 0), (13, .own 3 F.length 0 F.length), (14, .int .i64 0), (15, .int .i64 i)])
      (fun i => [.box (.agg [.own 1 S.length 0 S.length, .own 2 B.length 0 B.length]), .dat true 1 (strs T), .dat true 1 (ints B), .dat true 1 (ints F)]) (fun _ => True) (by simp) trivial fun i hi _ => ?_
    have hw' : IntKind.i64.wrap ((i : Int) + 1) = ((i + 1 : Nat) : Int) := wrap_id (by omega) (by omega)
    by_cases hlt2 : i < F.length
    · obtain ⟨m, hm1, hm2, hm3, hm4⟩ := hfm (F[i]'hlt2) (List.getElem_mem hlt2)
      have hU1 := hU m
      rw [huT m, decide_eq_true (by omega), Bool.true_and, hm4] at hU1
      by_cases hi0 : i = 0
      · subst hi0
        (repeat (first
    | (apply is_ok; (case hw => simp [-binV, binV_ii, binV_bb, hlt2, hlS, hm1, hU1]); (case he => simp [-binV, binV_ii, binV_bb, hlt2, hlS, hm1, hU1]; exact is_rfl))
    | (apply op_no; (case hw => simp [-binV, binV_ii, binV_bb, hlt2, hlS, hm1, hU1]))
    | refine op_nil ?_ | refine next_normal ?_ | refine go_seq ?_ | refine go_region ?_ | refine go_skip ?_ | refine go_block ?_ | refine inb_normal ?_
    | (apply go_yes; (case hc => simp [-binV, binV_ii, binV_bb, hlt2, hlS, hm1, hU1])) | (apply go_no; (case hc => simp [-binV, binV_ii, binV_bb, hlt2, hlS, hm1, hU1]))
    | refine go_exit ?_ | refine next_exit ?_ | refine inb_here ?_ | refine inb_past (by decide) ?_ | refine go_ret ?_ | refine next_ret ?_ | refine inb_ret ?_))
        exact ⟨hlt2, by simp [hw'], trivial⟩
      · obtain ⟨j, rfl⟩ : ∃ j, i = j + 1 := ⟨i - 1, by omega⟩
        have hj : j < F.length := by omega
        have hlt3 := (List.pairwise_iff_getElem.1 hfs) j (j + 1) hj hlt2 (by omega)
        have hw2 : IntKind.i64.wrap (((j + 1 : Nat) : Int) - 1) = (j : Int) := wrap_id (by omega) (by omega) |>.trans (by omega)
        rw [hm1] at hlt3
        have hlt4 : ¬ ((m : Int) ≤ F[j]) := by omega
        have g1 : (j : Int) + 1 < F.length := by omega
        have g2 : ((j : Int) + 1).toNat = j + 1 := by omega
        have g3 : (0 : Int) < (j : Int) + 1 := by omega
        have g4 : (0 : Int) ≤ (j : Int) + 1 := by omega
        have g5 : IntKind.i64.wrap (j : Int) = j := wrap_id (by omega) (by omega)
        (repeat (first
    | (apply is_ok; (case hw => simp [-binV, binV_ii, binV_bb, hlt2, hlS, hm1, hU1, hw2, hj, hlt4, g1, g2, g3, g4, g5]); (case he => simp [-binV, binV_ii, binV_bb, hlt2, hlS, hm1, hU1, hw2, hj, hlt4, g1, g2, g3, g4, g5]; exact is_rfl))
    | (apply op_no; (case hw => simp [-binV, binV_ii, binV_bb, hlt2, hlS, hm1, hU1, hw2, hj, hlt4, g1, g2, g3, g4, g5]))
    | refine op_nil ?_ | refine next_normal ?_ | refine go_seq ?_ | refine go_region ?_ | refine go_skip ?_ | refine go_block ?_ | refine inb_normal ?_
    | (apply go_yes; (case hc => simp [-binV, binV_ii, binV_bb, hlt2, hlS, hm1, hU1, hw2, hj, hlt4, g1, g2, g3, g4, g5])) | (apply go_no; (case hc => simp [-binV, binV_ii, binV_bb, hlt2, hlS, hm1, hU1, hw2, hj, hlt4, g1, g2, g3, g4, g5]))
    | refine go_exit ?_ | refine next_exit ?_ | refine inb_here ?_ | refine inb_past (by decide) ?_ | refine go_ret ?_ | refine next_ret ?_ | refine inb_ret ?_))
        exact ⟨hlt2, by simp; exact wrap_id (by omega) (by omega), trivial⟩
    · (repeat (first
    | (apply is_ok; (case hw => simp [-binV, binV_ii, hlt2, hA]); (case he => simp [-binV, binV_ii, hlt2, hA]; exact is_rfl))
    | (apply op_no; (case hw => simp [-binV, binV_ii, hlt2, hA]))
    | refine op_nil ?_ | refine next_normal ?_ | refine go_seq ?_ | refine go_region ?_ | refine go_skip ?_ | refine go_block ?_ | refine inb_normal ?_
    | (apply go_yes; (case hc => simp [-binV, binV_ii, hlt2, hA])) | (apply go_no; (case hc => simp [-binV, binV_ii, hlt2, hA]))
    | refine go_exit ?_ | refine next_exit ?_ | refine inb_here ?_ | refine inb_past (by decide) ?_ | refine go_ret ?_ | refine next_ret ?_ | refine inb_ret ?_))
      (apply ends_ok; (case h1 => simp; exact is_rfl); (case h2 => simp; exact is_rfl))
      simp
end Go.Abs

namespace Go.Abs
open Go.Proofs
set_option maxRecDepth 100000
set_option linter.unusedSimpArgs false
set_option linter.unusedVariables false

/-- The data of the last write of a sector. -/
def lastD (l : List (Int × List UInt8)) (k : Int) : List UInt8 := l.foldl (fun a w => if w.1 = k then w.2 else a) []
theorem lastD_take {l : List (Int × List UInt8)} {i : Nat} (h : i < l.length) (k : Int) : lastD (l.take (i + 1)) k = if l[i].1 = k then l[i].2 else lastD (l.take i) k := by
  unfold lastD
  rw [List.take_succ_eq_append_getElem h, List.foldl_append]
  rfl
def keysL (l : List (Int × List UInt8)) : List Int := wornK (l.map Prod.fst)
theorem keysL_take {l : List (Int × List UInt8)} {i : Nat} (h : i < l.length) : keysL (l.take (i + 1)) = if l[i].1 ∈ keysL (l.take i) then keysL (l.take i) else keysL (l.take i) ++ [l[i].1] := by
  unfold keysL
  have h' : i < (l.map Prod.fst).length := by simpa using h
  have := wornK_take h'
  simp only [List.map_take, List.getElem_map] at this ⊢
  exact this
theorem foldl_nodup : ∀ (B ks : List Int), ks.Nodup → (B.foldl (fun ks n => if n ∈ ks then ks else ks ++ [n]) ks).Nodup
  | [], ks, h => h
  | b :: B, ks, h => by
    rw [List.foldl_cons]
    refine foldl_nodup B _ ?_
    split
    · exact h
    · rename_i hn
      rw [List.nodup_append]
      refine ⟨h, by simp, fun a ha b' hb => ?_⟩
      rw [List.mem_singleton.1 hb]
      exact fun e => hn (e ▸ ha)
theorem keysL_nodup (l : List (Int × List UInt8)) : (keysL l).Nodup := foldl_nodup _ _ (by simp)
theorem mem_keysL {l : List (Int × List UInt8)} {k : Int} : k ∈ keysL l ↔ ∃ w ∈ l, w.1 = k := by
  unfold keysL
  rw [mem_worn]
  simp
theorem foldl_le : ∀ (B ks : List Int), (B.foldl (fun ks n => if n ∈ ks then ks else ks ++ [n]) ks).length ≤ ks.length + B.length
  | [], ks => by simp
  | b :: B, ks => by
    rw [List.foldl_cons]
    have := foldl_le B (if b ∈ ks then ks else ks ++ [b])
    rw [List.length_cons]
    split at this
    · rename_i h; simp only [h, if_true] at *; omega
    · rename_i h; simp only [h, if_false, List.length_append, List.length_singleton] at *; omega
theorem keysL_length (l : List (Int × List UInt8)) : (keysL l).length ≤ l.length := by
  have := foldl_le (l.map Prod.fst) []
  unfold keysL wornK
  simpa using this
/-- The last write of each sector, ascending. -/
def mergeL (l : List (Int × List UInt8)) : List (Int × List UInt8) := (sorted (keysL l)).map fun k => (k, lastD l k)
theorem mergeL_length (l : List (Int × List UInt8)) : (mergeL l).length = (keysL l).length := by simp [mergeL, sorted_length]

theorem findK_fun (k : Int) (f : Int → List UInt8) : ∀ (ks : List Int), findK (.int .i64 k) (ints ks) (ks.map fun c => .str (f c)) = some (if k ∈ ks then some (.str (f k)) else none)
  | [] => by simp [findK]
  | c :: ks => by
    simp only [List.map_cons, findK, sameKey]
    by_cases h : k = c
    · subst h; simp
    · have : (k == c) = false := by simpa using h
      simp only [if_true, this]
      have ih := findK_fun k f ks
      simp only [ints] at ih
      rw [ih]
      simp [h]
theorem setK_fun (k : Int) (s : List UInt8) (f : Int → List UInt8) : ∀ (ks : List Int), ks.Nodup → setK (.int .i64 k) (.str s) (ints ks) (ks.map fun c => .str (f c)) = ks.map fun c => .str (if k = c then s else f c)
  | [], _ => by simp [setK]
  | c :: ks, hn => by
    rw [List.nodup_cons] at hn
    simp only [List.map_cons, setK, sameKey]
    by_cases h : k = c
    · subst h
      simp
      intro a ha
      intro e
      exact absurd (e ▸ ha) hn.1
    · have : (k == c) = false := by simpa using h
      simp only [if_true, this]
      have ih := setK_fun k s f ks hn.2
      simp only [ints] at ih
      rw [ih]
      simp [h]

theorem Merge_eq (l : List (Int × List UInt8)) (hl : l.length ≤ 1000000) : bodyW DC 37 [.sl (l.map wrV)] [] = some (.own 0 (mergeL l).length 0 (mergeL l).length, [.dat true 2 ((mergeL l).map wrV)]) := by
  (refine gives_iff ?_; refine go_func Try.f37 rfl rfl (by simp [Try.f37]) ?_; dsimp only [codeL, Try.f37, scL, sopsL, guardL, dstAt, loopKey])
  (repeat (first
    | (apply is_ok; (case hw => simp); (case he => simp; exact is_rfl))
    | (apply op_no; (case hw => simp))
    | refine op_nil ?_ | refine next_normal ?_ | refine go_seq ?_ | refine go_region ?_ | refine go_skip ?_ | refine go_block ?_ | refine inb_normal ?_
    | (apply go_yes; (case hc => simp)) | (apply go_no; (case hc => simp))
    | refine go_exit ?_ | refine next_exit ?_ | refine inb_here ?_ | refine inb_past (by decide) ?_ | refine go_ret ?_ | refine next_ret ?_ | refine inb_ret ?_))
  refine go_count l.length (fun i => [(3, .map 0), (4, .own 1 (keysL (l.take i)).length 0 (keysL (l.take i)).length), (13, .sl (l.map wrV)), (14, .int .i64 l.length), (15, .int .i64 i)])
    (fun i => [.map true (ints (keysL (l.take i))) ((keysL (l.take i)).map fun c => .str (lastD (l.take i) c)), .dat true 1 (ints (keysL (l.take i)))]) (fun _ => True) (by simp [keysL, wornK]) trivial fun i hi _ => ?_
  have hw : IntKind.i64.wrap ((i : Int) + 1) = ((i + 1 : Nat) : Int) := wrap_id (by omega) (by omega)
  by_cases hlt : i < l.length
  · have hk := keysL_take hlt
    have hd := lastD_take hlt
    have hnd := keysL_nodup (l.take i)
    have hlen := keysL_length (l.take i)
    have hlen2 : (l.take i).length ≤ i := by rw [List.length_take]; omega
    have gx : l[i]? = some (l[i]'hlt) := List.getElem?_eq_getElem hlt
    generalize hx0 : l[i]'hlt = x at hk hd gx
    obtain ⟨k, s⟩ := x
    dsimp only at hk hd
    generalize l.take i = l0 at hk hd hnd hlen hlen2
    have hf := findK_fun k (lastD l0) (keysL l0)
    have hs := setK_fun k s (lastD l0) (keysL l0) hnd
    have r1 : ((keysL l0).length + 1) * 8 ≤ room := by unfold room; omega
    have r2 : (keysL l0).length + 1 ≤ room := by unfold room; omega
    by_cases hm : k ∈ keysL l0
    · rw [if_pos hm] at hf hk
      (repeat (first
    | (apply is_ok; (case hw => simp [hlt, gx, hx0, hf, hs]); (case he => simp [hlt, gx, hx0, hf, hs]; exact is_rfl))
    | (apply op_no; (case hw => simp [hlt, gx, hx0, hf, hs]))
    | refine op_nil ?_ | refine next_normal ?_ | refine go_seq ?_ | refine go_region ?_ | refine go_skip ?_ | refine go_block ?_ | refine inb_normal ?_
    | (apply go_yes; (case hc => simp [hlt, gx, hx0, hf, hs])) | (apply go_no; (case hc => simp [hlt, gx, hx0, hf, hs]))
    | refine go_exit ?_ | refine next_exit ?_ | refine inb_here ?_ | refine inb_past (by decide) ?_ | refine go_ret ?_ | refine next_ret ?_ | refine inb_ret ?_))
      exact ⟨hlt, by simp [hw, hk, hd], trivial⟩
    · rw [if_neg hm] at hf hk
      (repeat (first
    | (apply is_ok; (case hw => simp [hlt, gx, hx0, hf, hs, r1, r2]); (case he => simp [hlt, gx, hx0, hf, hs, r1, r2]; exact is_rfl))
    | (apply op_no; (case hw => simp [hlt, gx, hx0, hf, hs, r1, r2]))
    | refine op_nil ?_ | refine next_normal ?_ | refine go_seq ?_ | refine go_region ?_ | refine go_skip ?_ | refine go_block ?_ | refine inb_normal ?_
    | (apply go_yes; (case hc => simp [hlt, gx, hx0, hf, hs, r1, r2])) | (apply go_no; (case hc => simp [hlt, gx, hx0, hf, hs, r1, r2]))
    | refine go_exit ?_ | refine next_exit ?_ | refine inb_here ?_ | refine inb_past (by decide) ?_ | refine go_ret ?_ | refine next_ret ?_ | refine inb_ret ?_))
      refine ⟨hlt, ?_, trivial⟩
      have e : (keysL l0 ++ [k]).map (fun c => V.str (if k = c then s else lastD l0 c)) = (keysL l0).map (fun c => V.str (lastD l0 c)) ++ [V.str s] := by
        rw [List.map_append]
        congr 1
        · refine List.map_congr_left fun c hc => ?_
          rw [if_neg (fun h => hm (by rw [h]; exact hc))]
        · simp
      simp [hw, hk, hd, e]
  · have hin : i = l.length := by omega
    subst hin
    rw [List.take_length]
    have hkl := keysL_length l
    have hsl := sorted_length (keysL l)
    have r1 : (keysL l).length ≤ room := by unfold room; omega
    (repeat (first
    | (apply is_ok; (case hw => simp [r1, hsl]); (case he => simp [r1, hsl]; exact is_rfl))
    | (apply op_no; (case hw => simp [r1, hsl]))
    | refine op_nil ?_ | refine next_normal ?_ | refine go_seq ?_ | refine go_region ?_ | refine go_skip ?_ | refine go_block ?_ | refine inb_normal ?_
    | (apply go_yes; (case hc => simp [r1, hsl])) | (apply go_no; (case hc => simp [r1, hsl]))
    | refine go_exit ?_ | refine next_exit ?_ | refine inb_here ?_ | refine inb_past (by decide) ?_ | refine go_ret ?_ | refine next_ret ?_ | refine inb_ret ?_))
    rw [← hsl]
    have hmem : ∀ k ∈ sorted (keysL l), k ∈ keysL l := fun k h => sorted_mem.1 h
    have hmg : mergeL l = (sorted (keysL l)).map fun k => (k, lastD l k) := rfl
    generalize sorted (keysL l) = ks at hsl hmem hmg
    refine go_count ks.length (fun i => [(3, .map 0), (9, .own 1 i 0 i), (41, .own 2 ks.length 0 ks.length), (42, .int .i64 ks.length), (43, .int .i64 i)])
      (fun i => [.map true (ints (keysL l)) ((keysL l).map fun c => .str (lastD l c)), .dat true 2 (((ks.take i).map fun k => (k, lastD l k)).map wrV), .dat true 1 (ints ks)]) (fun _ => True) (by simp) trivial fun i hi _ => ?_
    have hw : IntKind.i64.wrap ((i : Int) + 1) = ((i + 1 : Nat) : Int) := wrap_id (by omega) (by omega)
    by_cases hlt : i < ks.length
    · have hx := hmem _ (List.getElem_mem hlt)
      have ht := List.take_succ_eq_append_getElem hlt
      have gx : ks[i]? = some (ks[i]'hlt) := List.getElem?_eq_getElem hlt
      generalize hx0 : ks[i]'hlt = x at hx ht gx
      have hf := findK_fun x (lastD l) (keysL l)
      rw [if_pos hx] at hf
      have r2 : (i + 1) * 24 ≤ room := by unfold room; omega
      have r3 : i + 1 ≤ room := by unfold room; omega
      have r4 : min i ks.length = i := by omega
      (repeat (first
    | (apply is_ok; (case hw => simp [hlt, gx, hx0, hf, r2, r3, r4]); (case he => simp [hlt, gx, hx0, hf, r2, r3, r4]; exact is_rfl))
    | (apply op_no; (case hw => simp [hlt, gx, hx0, hf, r2, r3, r4]))
    | refine op_nil ?_ | refine next_normal ?_ | refine go_seq ?_ | refine go_region ?_ | refine go_skip ?_ | refine go_block ?_ | refine inb_normal ?_
    | (apply go_yes; (case hc => simp [hlt, gx, hx0, hf, r2, r3, r4])) | (apply go_no; (case hc => simp [hlt, gx, hx0, hf, r2, r3, r4]))
    | refine go_exit ?_ | refine next_exit ?_ | refine inb_here ?_ | refine inb_past (by decide) ?_ | refine go_ret ?_ | refine next_ret ?_ | refine inb_ret ?_))
      exact ⟨hlt, by simp [hw, ht], trivial⟩
    · have hin : i = ks.length := by omega
      subst hin
      rw [List.take_length, ← hmg]
      have hml : (mergeL l).length = ks.length := by rw [hmg]; simp
      (repeat (first
    | (apply is_ok; (case hw => simp); (case he => simp; exact is_rfl))
    | (apply op_no; (case hw => simp))
    | refine op_nil ?_ | refine next_normal ?_ | refine go_seq ?_ | refine go_region ?_ | refine go_skip ?_ | refine go_block ?_ | refine inb_normal ?_
    | (apply go_yes; (case hc => simp)) | (apply go_no; (case hc => simp))
    | refine go_exit ?_ | refine next_exit ?_ | refine inb_here ?_ | refine inb_past (by decide) ?_ | refine go_ret ?_ | refine next_ret ?_ | refine inb_ret ?_))
      (apply ends_ok; (case h1 => simp; exact is_rfl); (case h2 => simp; exact is_rfl))
      simp [hml]
end Go.Abs

