/- Proved here: what functions of the program compute, over the evaluator. No condition but those that each theorem states. -/
import Derived.Test.YtpffmpllnpmkbaaE16
namespace Go.Abs
open Go.Proofs
set_option maxRecDepth 100000
set_option linter.unusedSimpArgs false
set_option linter.unusedVariables false

/-- A byte with a bit set or cleared. -/
def markN (x r : Nat) (u : Bool) : Nat := if u then (if x / 2 ^ r % 2 = 1 then x else x + 2 ^ r) else (if x / 2 ^ r % 2 = 1 then x - 2 ^ r else x)
def andNotI (k : IntKind) (a b : Int) : Int := k.wrap (BitVec.ofInt k.bits a &&& ~~~ BitVec.ofInt k.bits b).toNat
def orI (k : IntKind) (a b : Int) : Int := k.wrap (BitVec.ofInt k.bits a ||| BitVec.ofInt k.bits b).toNat
theorem intOp_andNot (k : IntKind) (a b : Int) : intOp .andNot k a b = some (.int k (andNotI k a b)) := rfl
theorem intOp_or (k : IntKind) (a b : Int) : intOp .or k a b = some (.int k (orI k a b)) := rfl
def chk (x r : Nat) : Bool := decide (markN x r true < 256) && (decide (markN x r false < 256) && (decide (andNotI .u8 x (2 ^ r : Nat) = markN x r false) && (decide (orI .u8 (markN x r false) (2 ^ r : Nat) = markN x r true) &&
  (decide (IntKind.u8.wrap (orI .i64 x (2 ^ r : Nat)) = markN x r true) && decide (IntKind.u8.wrap (andNotI .i64 x (2 ^ r : Nat)) = markN x r false)))))
theorem chk_all : ((List.range 256).all fun x => (List.range 8).all fun r => chk x r) = true := by kernel_rfl
theorem chk_at {x r : Nat} (hx : x < 256) (hr : r < 8) : markN x r true < 256 ∧ markN x r false < 256 ∧ andNotI .u8 x (2 ^ r : Nat) = markN x r false ∧ orI .u8 (markN x r false) (2 ^ r : Nat) = markN x r true ∧
    IntKind.u8.wrap (orI .i64 x (2 ^ r : Nat)) = markN x r true ∧ IntKind.u8.wrap (andNotI .i64 x (2 ^ r : Nat)) = markN x r false := by
  have h := List.all_eq_true.1 (List.all_eq_true.1 chk_all x (List.mem_range.2 hx)) r (List.mem_range.2 hr)
  unfold chk at h
  simp only [Bool.and_eq_true, decide_eq_true_eq] at h
  exact h

def markS (s : List UInt8) (n : Nat) (u : Bool) : List UInt8 := s.set (n / 8) (UInt8.ofNat (markN (s.getD (n / 8) 0).toNat (n % 8) u))
@[simp] theorem markS_length {s : List UInt8} {n : Nat} {u : Bool} : (markS s n u).length = s.length := by simp [markS]
theorem u8s_set (s : List UInt8) (q v : Nat) (h : v < 256) : u8s (s.set q (UInt8.ofNat v)) = (u8s s).set q (.int .u8 (v : Int)) := by
  unfold u8s
  rw [List.map_set]
  congr 2
  simp
  omega

theorem marked_eq (s : List UInt8) (n : Nat) (u : Bool) (h : n / 8 < s.length) (hn : n ≤ 1000000) (hs : s.length ≤ 1000000) : bodyW DC 54 [.str s, .int .i64 n, .bool u] [] = some (.str (markS s n u), []) := by
  have f1 : (n : Int).tdiv 8 = ((n / 8 : Nat) : Int) := by rw [Int.tdiv_eq_ediv_of_nonneg (by omega)]; rfl
  have f2 : (n : Int).tmod 8 = ((n % 8 : Nat) : Int) := by rw [Int.tmod_eq_emod_of_nonneg (by omega)]; rfl
  have f6 : IntKind.i64.wrap ((n / 8 : Nat) : Int) = ((n / 8 : Nat) : Int) := wrap_id (by omega) (by omega)
  unfold markS
  rw [getD_at h]
  generalize hx : s[n / 8]'h = x
  have hx8 := x.toNat_lt
  have hr : n % 8 < 8 := Nat.mod_lt _ (by omega)
  generalize n / 8 = q at f1 h f6 hx
  have g0 : s[q]? = some x := by rw [List.getElem?_eq_getElem h, hx]
  generalize n % 8 = r at f2 hr
  have hset : ∀ v, s.set q v = s.take q ++ v :: s.drop (q + 1) := fun v => by rw [List.set_eq_take_append_cons_drop, if_pos h]
  rw [hset]
  obtain ⟨c1, c2, c3, c4, c5, c6⟩ := chk_at (x := x.toNat) (by omega) hr
  have f5 : min r 64 = r := by omega
  have f7 : IntKind.i64.wrap ((2 : Int) ^ r) = ((2 ^ r : Nat) : Int) := by
    have hp : 2 ^ r ≤ 128 := Nat.le_trans (Nat.pow_le_pow_right (by omega) (show r ≤ 7 by omega)) (by decide)
    have e : ((2 : Int) ^ r) = ((2 ^ r : Nat) : Int) := by rw [Int.natCast_pow]; rfl
    rw [e]
    generalize 2 ^ r = p at hp
    exact wrap_id (by omega) (by omega)
  have f8 : IntKind.i64.wrap ((q : Int) + 1) = (q : Int) + 1 := wrap_id (by omega) (by omega)
  have g6 : ((q : Int) + 1).toNat = q + 1 := by omega
  have g7 : (0 : Int) ≤ (q : Int) + 1 := by omega
  have g8 : (q : Int) + 1 ≤ s.length := by omega
  have f9 := wrap_byte x
  have g2 : q ≤ s.length := by omega
  have g3 : q + 1 ≤ s.length := by omega
  have g4 : min q s.length = q := by omega
  have g5 : s.take s.length = s := List.take_length ..
  have r1 : q + 1 ≤ room := by unfold room; omega
  have r2 : q + 1 + (s.length - (q + 1)) ≤ room := by unfold room; omega
  have r3 : s.length ≤ room := by unfold room; omega
  have r4 : q + (s.length - (q + 1) + 1) ≤ room := by unfold room; omega
  have r5 : q + (s.length - q) = s.length := by omega
  have r6 : q + 1 + (s.length - (q + 1)) = s.length := by omega
  generalize 2 ^ r = p at c3 c4 c5 c6 f7
  cases u with
  | true =>
    generalize markN x.toNat r true = v at c1 c4 c5 ⊢
    (refine gives_iff ?_; refine go_func Try.f54 rfl rfl (by simp [Try.f54]) ?_; dsimp only [codeL, Try.f54, scL, sopsL, guardL, dstAt, loopKey])
    (repeat (first
    | (apply is_ok; (case hw => simp [-intOp, intOp_quo8, intOp_rem8, intOp_or, f1, f2, f5, f6, f7, f8, f9, g0, h, hx, g2, g3, g4, g5, g6, g7, g8, r1, r3, r4, r5, r6, c5]); (case he => simp [-intOp, intOp_quo8, intOp_rem8, intOp_or, f1, f2, f5, f6, f7, f8, f9, g0, h, hx, g2, g3, g4, g5, g6, g7, g8, r1, r3, r4, r5, r6, c5]; exact is_rfl))
    | (apply op_no; (case hw => simp [-intOp, intOp_quo8, intOp_rem8, intOp_or, f1, f2, f5, f6, f7, f8, f9, g0, h, hx, g2, g3, g4, g5, g6, g7, g8, r1, r3, r4, r5, r6, c5]))
    | refine op_nil ?_ | refine next_normal ?_ | refine go_seq ?_ | refine go_region ?_ | refine go_skip ?_ | refine go_block ?_ | refine inb_normal ?_
    | (apply go_yes; (case hc => simp [-intOp, intOp_quo8, intOp_rem8, intOp_or, f1, f2, f5, f6, f7, f8, f9, g0, h, hx, g2, g3, g4, g5, g6, g7, g8, r1, r3, r4, r5, r6, c5])) | (apply go_no; (case hc => simp [-intOp, intOp_quo8, intOp_rem8, intOp_or, f1, f2, f5, f6, f7, f8, f9, g0, h, hx, g2, g3, g4, g5, g6, g7, g8, r1, r3, r4, r5, r6, c5]))
    | refine go_exit ?_ | refine next_exit ?_ | refine inb_here ?_ | refine inb_past (by decide) ?_ | refine go_ret ?_ | refine next_ret ?_ | refine inb_ret ?_))
    (apply ends_ok; (case h1 => simp; exact is_rfl); (case h2 => simp; exact is_rfl))
    simp
  | false =>
    generalize markN x.toNat r false = v at c2 c3 c6 ⊢
    (refine gives_iff ?_; refine go_func Try.f54 rfl rfl (by simp [Try.f54]) ?_; dsimp only [codeL, Try.f54, scL, sopsL, guardL, dstAt, loopKey])
    (repeat (first
    | (apply is_ok; (case hw => simp [-intOp, intOp_quo8, intOp_rem8, intOp_andNot, f1, f2, f5, f6, f7, f8, f9, g0, h, hx, g2, g3, g4, g5, g6, g7, g8, r1, r3, r4, r5, r6, c6]); (case he => simp [-intOp, intOp_quo8, intOp_rem8, intOp_andNot, f1, f2, f5, f6, f7, f8, f9, g0, h, hx, g2, g3, g4, g5, g6, g7, g8, r1, r3, r4, r5, r6, c6]; exact is_rfl))
    | (apply op_no; (case hw => simp [-intOp, intOp_quo8, intOp_rem8, intOp_andNot, f1, f2, f5, f6, f7, f8, f9, g0, h, hx, g2, g3, g4, g5, g6, g7, g8, r1, r3, r4, r5, r6, c6]))
    | refine op_nil ?_ | refine next_normal ?_ | refine go_seq ?_ | refine go_region ?_ | refine go_skip ?_ | refine go_block ?_ | refine inb_normal ?_
    | (apply go_yes; (case hc => simp [-intOp, intOp_quo8, intOp_rem8, intOp_andNot, f1, f2, f5, f6, f7, f8, f9, g0, h, hx, g2, g3, g4, g5, g6, g7, g8, r1, r3, r4, r5, r6, c6])) | (apply go_no; (case hc => simp [-intOp, intOp_quo8, intOp_rem8, intOp_andNot, f1, f2, f5, f6, f7, f8, f9, g0, h, hx, g2, g3, g4, g5, g6, g7, g8, r1, r3, r4, r5, r6, c6]))
    | refine go_exit ?_ | refine next_exit ?_ | refine inb_here ?_ | refine inb_past (by decide) ?_ | refine go_ret ?_ | refine next_ret ?_ | refine inb_ret ?_))
    (apply ends_ok; (case h1 => simp; exact is_rfl); (case h2 => simp; exact is_rfl))
    simp
def markF (N : Int) (u : Bool) : List UInt8 → List Int → Option (List UInt8)
  | t, [] => some t
  | t, x :: l => if 27 ≤ x ∧ x < 27 + N then markF N u (markS t x.toNat u) l else none
theorem markF_at {N : Int} {u : Bool} {t : List UInt8} {l : List Int} {i : Nat} (h : i < l.length) : markF N u t (l.drop i) = if 27 ≤ l[i] ∧ l[i] < 27 + N then markF N u (markS t (l[i]).toNat u) (l.drop (i + 1)) else none := by
  rw [List.drop_eq_getElem_cons h, markF]
def markW (S : List (List UInt8)) (B : List Int) (l : List Int) (u : Bool) : (Int × List UInt8) × Int :=
  if (mapS S B).2 = 0 then (match markF (freeN S) u (mapS S B).1 l with | some t => ((18, t), 0) | none => ((0, []), 2)) else ((0, []), (mapS S B).2)

theorem Data_eq (b n : Int) (h : n ≤ 9223372036854775807) : bodyW DC 53 [extV 27 b, .int .i64 n] [] = some (.bool (decide (27 ≤ n ∧ n < 27 + b)), []) := by
  by_cases h1 : 27 ≤ n
  · have w : IntKind.i64.wrap (n - 27) = n - 27 := wrap_id (by omega) (by omega)
    have e : decide (27 ≤ n ∧ n < 27 + b) = decide (n - 27 < b) := by
      rw [Bool.eq_iff_iff]; simp; omega
    rw [e]
    (refine gives_iff ?_; refine go_func Try.f53 rfl rfl (by simp [Try.f53]) ?_; dsimp only [codeL, Try.f53, scL, sopsL, guardL, dstAt, loopKey])
    (repeat (first
    | (apply is_ok; (case hw => simp [w, h1]); (case he => simp [w, h1]; exact is_rfl))
    | (apply op_no; (case hw => simp [w, h1]))
    | refine op_nil ?_ | refine next_normal ?_ | refine go_seq ?_ | refine go_region ?_ | refine go_skip ?_ | refine go_block ?_ | refine inb_normal ?_
    | (apply go_yes; (case hc => simp [w, h1])) | (apply go_no; (case hc => simp [w, h1]))
    | refine go_exit ?_ | refine next_exit ?_ | refine inb_here ?_ | refine inb_past (by decide) ?_ | refine go_ret ?_ | refine next_ret ?_ | refine inb_ret ?_))
    (apply ends_ok; (case h1 => simp; exact is_rfl); (case h2 => simp; exact is_rfl))
    simp [h1]
  · rw [decide_eq_false (by omega)]
    (refine gives_iff ?_; refine go_func Try.f53 rfl rfl (by simp [Try.f53]) ?_; dsimp only [codeL, Try.f53, scL, sopsL, guardL, dstAt, loopKey])
    (repeat (first
    | (apply is_ok; (case hw => simp [h1]); (case he => simp [h1]; exact is_rfl))
    | (apply op_no; (case hw => simp [h1]))
    | refine op_nil ?_ | refine next_normal ?_ | refine go_seq ?_ | refine go_region ?_ | refine go_skip ?_ | refine go_block ?_ | refine inb_normal ?_
    | (apply go_yes; (case hc => simp [h1])) | (apply go_no; (case hc => simp [h1]))
    | refine go_exit ?_ | refine next_exit ?_ | refine inb_here ?_ | refine inb_past (by decide) ?_ | refine go_ret ?_ | refine next_ret ?_ | refine inb_ret ?_))
    (apply ends_ok; (case h1 => simp; exact is_rfl); (case h2 => simp; exact is_rfl))
    simp [h1]

theorem MarkR_eq (S : List (List UInt8)) (B : List Int) (hB : B.length ≤ maxLen) (l : List Int) (hl : l.length ≤ 1000000) (hX : In64 l) (u : Bool) :
    bodyW DC 29 [drv S B, .sl (ints l), .bool u] [] = some (.tuple [wrV (markW S B l u).1, .int .i64 (markW S B l u).2], []) := by
  obtain ⟨a, b, hb, hab⟩ := bitmap_eq S B hB
  unfold markW
  by_cases h : (mapS S B).2 = 0
  case neg =>
    clear hab
    rw [if_neg h]
    generalize mapS S B = e at hb h
    (refine gives_iff ?_; refine go_func Try.f29 rfl rfl (by simp [Try.f29]) ?_; dsimp only [codeL, Try.f29, scL, sopsL, guardL, dstAt, loopKey])
    (repeat (first
    | (apply is_ok; (case hw => simp [hb, h]); (case he => simp [hb, h]; exact is_rfl))
    | (apply op_no; (case hw => simp [hb, h]))
    | refine op_nil ?_ | refine next_normal ?_ | refine go_seq ?_ | refine go_region ?_ | refine go_skip ?_ | refine go_block ?_ | refine inb_normal ?_
    | (apply go_yes; (case hc => simp [hb, h])) | (apply go_no; (case hc => simp [hb, h]))
    | refine go_exit ?_ | refine next_exit ?_ | refine inb_here ?_ | refine inb_past (by decide) ?_ | refine go_ret ?_ | refine next_ret ?_ | refine inb_ret ?_))
    (apply ends_ok; (case h1 => simp; exact is_rfl); (case h2 => simp; exact is_rfl))
    simp
  obtain ⟨rfl, rfl⟩ := hab h
  obtain ⟨hv, hs⟩ := map_ok h
  obtain ⟨hn, hn2⟩ := freeN_eq hv
  rw [hn, h] at hb
  rw [if_pos h]
  clear hab
  generalize freeN S = n at hb hn2
  generalize (mapS S B).1 = s at hb hs
  generalize hR : markF n u s l = R
  (refine gives_iff ?_; refine go_func Try.f29 rfl rfl (by simp [Try.f29]) ?_; dsimp only [codeL, Try.f29, scL, sopsL, guardL, dstAt, loopKey])
  (repeat (first
    | (apply is_ok; (case hw => simp [hb]); (case he => simp [hb]; exact is_rfl))
    | (apply op_no; (case hw => simp [hb]))
    | refine op_nil ?_ | refine next_normal ?_ | refine go_seq ?_ | refine go_region ?_ | refine go_skip ?_ | refine go_block ?_ | refine inb_normal ?_
    | (apply go_yes; (case hc => simp [hb])) | (apply go_no; (case hc => simp [hb]))
    | refine go_exit ?_ | refine next_exit ?_ | refine inb_here ?_ | refine inb_past (by decide) ?_ | refine go_ret ?_ | refine next_ret ?_ | refine inb_ret ?_))
  refine go_while (σ := List UInt8 × Nat) (fun p => [(1, .sl (ints l)), (2, .bool u), (6, .ptr 0 1 0 0), (8, .ptr 1 1 0 0), (9, .str p.1), (11, .int .i64 p.2)])
    (fun p => [.box (wrV (0, [])), .box (extV 27 (n : Int))]) (fun p => p.2 ≤ l.length ∧ p.1.length = 128 ∧ markF n u p.1 (l.drop p.2) = R) (fun p => l.length - p.2) (s, 0) (by simp) ⟨by simp, hs, by simpa using hR⟩ ?_
  rintro ⟨t, i⟩ ⟨hi, ht, hI⟩
  dsimp only at hi ht hI
  have hw : IntKind.i64.wrap ((i : Int) + 1) = ((i + 1 : Nat) : Int) := wrap_id (by omega) (by omega)
  by_cases hlt : i < l.length
  · rw [markF_at hlt] at hI
    have gx : l[i]? = some (l[i]'hlt) := List.getElem?_eq_getElem hlt
    have hx := hX _ (List.getElem_mem hlt)
    generalize hx0 : l[i]'hlt = x at hI gx hx
    have hD := Data_eq n x hx.2
    by_cases hx2 : 27 ≤ x ∧ x < 27 + (n : Int)
    · rw [if_pos hx2] at hI
      rw [decide_eq_true hx2] at hD
      obtain ⟨m, rfl⟩ : ∃ m : Nat, x = m := ⟨x.toNat, by omega⟩
      have hM := marked_eq t m u (by omega) (by omega) (by omega)
      (repeat (first
    | (apply is_ok; (case hw => simp [hlt, gx, hx0, hD, hM]); (case he => simp [hlt, gx, hx0, hD, hM]; exact is_rfl))
    | (apply op_no; (case hw => simp [hlt, gx, hx0, hD, hM]))
    | refine op_nil ?_ | refine next_normal ?_ | refine go_seq ?_ | refine go_region ?_ | refine go_skip ?_ | refine go_block ?_ | refine inb_normal ?_
    | (apply go_yes; (case hc => simp [hlt, gx, hx0, hD, hM])) | (apply go_no; (case hc => simp [hlt, gx, hx0, hD, hM]))
    | refine go_exit ?_ | refine next_exit ?_ | refine inb_here ?_ | refine inb_past (by decide) ?_ | refine go_ret ?_ | refine next_ret ?_ | refine inb_ret ?_))
      refine ⟨(markS t m u, i + 1), by simp [hw], by dsimp only; omega, by omega, by simpa using ht, by simpa using hI⟩
    · rw [if_neg hx2] at hI
      rw [decide_eq_false hx2] at hD
      (repeat (first
    | (apply is_ok; (case hw => simp [hlt, gx, hx0, hD]); (case he => simp [hlt, gx, hx0, hD]; exact is_rfl))
    | (apply op_no; (case hw => simp [hlt, gx, hx0, hD]))
    | refine op_nil ?_ | refine next_normal ?_ | refine go_seq ?_ | refine go_region ?_ | refine go_skip ?_ | refine go_block ?_ | refine inb_normal ?_
    | (apply go_yes; (case hc => simp [hlt, gx, hx0, hD])) | (apply go_no; (case hc => simp [hlt, gx, hx0, hD]))
    | refine go_exit ?_ | refine next_exit ?_ | refine inb_here ?_ | refine inb_past (by decide) ?_ | refine go_ret ?_ | refine next_ret ?_ | refine inb_ret ?_))
      (apply ends_ok; (case h1 => simp; exact is_rfl); (case h2 => simp; exact is_rfl))
      simp [← hI]
  · rw [List.drop_eq_nil_of_le (by omega), markF] at hI
    (repeat (first
    | (apply is_ok; (case hw => simp [hlt]); (case he => simp [hlt]; exact is_rfl))
    | (apply op_no; (case hw => simp [hlt]))
    | refine op_nil ?_ | refine next_normal ?_ | refine go_seq ?_ | refine go_region ?_ | refine go_skip ?_ | refine go_block ?_ | refine inb_normal ?_
    | (apply go_yes; (case hc => simp [hlt])) | (apply go_no; (case hc => simp [hlt]))
    | refine go_exit ?_ | refine next_exit ?_ | refine inb_here ?_ | refine inb_past (by decide) ?_ | refine go_ret ?_ | refine next_ret ?_ | refine inb_ret ?_))
    (apply ends_ok; (case h1 => simp; exact is_rfl); (case h2 => simp; exact is_rfl))
    simp [← hI]
end Go.Abs
