/- Proved here: what functions of the program compute, over the evaluator. No condition but those that each theorem states. -/
import Derived.Test.YtfgikfagblhkiaaGreatDoorTF
import Derived.Test.YtfgikfagblhkiaaGreatDoorA6
namespace Go.Abs
open Go.Proofs
set_option maxRecDepth 100000
set_option linter.unusedSimpArgs false
set_option linter.unusedVariables false

theorem refsL_none {l : List V} (h : ∀ x ∈ l, refs x = []) : refsL l = [] := by
  induction l with
  | nil => rfl
  | cons x l ih => rw [refsL_cons, h x (List.mem_cons_self ..), ih fun y hy => h y (List.mem_cons_of_mem _ hy)]; rfl
theorem renL_same {ρ : Nat → Option Nat} {l : List V} (h : ∀ x ∈ l, ren ρ x = x) : renL ρ l = l := by
  induction l with
  | nil => rfl
  | cons x l ih => rw [renL_cons, h x (List.mem_cons_self ..), ih fun y hy => h y (List.mem_cons_of_mem _ hy)]
@[simp] theorem refsL_ints (k : IntKind) (L : List Int) : refsL (L.map (V.int k)) = [] := refsL_none fun x hx => by obtain ⟨a, _, rfl⟩ := List.mem_map.1 hx; rfl
@[simp] theorem refsL_strs (L : List (List UInt8)) : refsL (L.map V.str) = [] := refsL_none fun x hx => by obtain ⟨a, _, rfl⟩ := List.mem_map.1 hx; rfl
@[simp] theorem refsL_ints_take (n : Nat) (k : IntKind) (L : List Int) : refsL ((L.map (V.int k)).take n) = [] := refsL_none fun x hx => by obtain ⟨a, _, rfl⟩ := List.mem_map.1 (List.mem_of_mem_take hx); rfl
@[simp] theorem renL_ints (ρ : Nat → Option Nat) (k : IntKind) (L : List Int) : renL ρ (L.map (V.int k)) = L.map (V.int k) := renL_same fun x hx => by obtain ⟨a, _, rfl⟩ := List.mem_map.1 hx; rfl
@[simp] theorem renL_strs (ρ : Nat → Option Nat) (L : List (List UInt8)) : renL ρ (L.map V.str) = L.map V.str := renL_same fun x hx => by obtain ⟨a, _, rfl⟩ := List.mem_map.1 hx; rfl

/-- A whole number as two bytes. -/
def put2 (n : Int) : List UInt8 := [UInt8.ofNat (n.toNat % 256), UInt8.ofNat (n.toNat / 256 % 256)]
theorem wrap_u8_nat (x : Nat) : IntKind.u8.wrap (x : Int) = ((x % 256 : Nat) : Int) := by simp [IntKind.wrap, IntKind.bits, IntKind.signed]
theorem fdiv_nat (a b : Nat) : (a : Int).fdiv (b : Int) = ((a / b : Nat) : Int) := by rw [Int.fdiv_eq_ediv_of_nonneg _ (by omega)]; rfl

@[simp] theorem ofVal_int (k : IntKind) (n : Int) : ofVal (.int k n) = .int k n := rfl
@[simp] theorem ofVal_bool (b : Bool) : ofVal (.bool b) = .bool b := rfl
@[simp] theorem ofVal_str (s : ByteArray) : ofVal (.string s) = .str s.data.toList := rfl

@[simp] theorem wrap_lit {x : Int} (h : -9223372036854775808 ≤ x) (h' : x ≤ 9223372036854775807) : IntKind.i64.wrap x = x := wrap_id h h'
@[simp] theorem bits_i64 : IntKind.i64.bits = 64 := rfl
@[simp] theorem bits_u8 : IntKind.u8.bits = 8 := rfl
@[simp] theorem bits_u64 : IntKind.u64.bits = 64 := rfl

theorem Put_eq (n : Int) (hn : n ≤ 9223372036854775807) : bodyW DC 147 [.int .i64 n, .int .i64 2] [] = some (.str (put2 n), []) := by
  have e0 : max 0 (min 2 8) = (2 : Int) := by decide
  have hm : max n 0 = (n.toNat : Int) := by omega
  unfold put2
  generalize n.toNat = m at hm
  have f1 : (m : Int).fdiv 1 = ((m / 1 : Nat) : Int) := fdiv_nat m 1
  have f2 : (m : Int).fdiv 256 = ((m / 256 : Nat) : Int) := fdiv_nat m 256
  have w1 := wrap_u8_nat m
  have w2 := wrap_u8_nat (m / 256)
  (refine gives_iff ?_; refine go_func Tryz.f147 rfl rfl (by simp [Tryz.f147]) ?_; dsimp only [codeL, Tryz.f147, scL, sopsL, guardL, dstAt, loopKey])
  (repeat (first
    | (apply is_ok; (case hw => simp [hm, e0, f1, f2, w1, w2]); (case he => simp [hm, e0, f1, f2, w1, w2]; exact is_rfl))
    | (apply op_no; (case hw => simp [hm, e0, f1, f2, w1, w2]))
    | refine op_nil ?_ | refine next_normal ?_ | refine go_seq ?_ | refine go_region ?_ | refine go_skip ?_ | refine go_block ?_ | refine inb_normal ?_
    | (apply go_yes; (case hc => simp [hm, e0, f1, f2, w1, w2])) | (apply go_no; (case hc => simp [hm, e0, f1, f2, w1, w2]))
    | refine go_exit ?_ | refine next_exit ?_ | refine inb_here ?_ | refine inb_past (by decide) ?_ | refine go_ret ?_ | refine next_ret ?_ | refine inb_ret ?_
    | (apply go_unroll; (case hh => simp [hm, e0, f1, f2, w1, w2]; exact is_rfl))))
  (apply ends_ok; (case h1 => simp; exact is_rfl); (case h2 => simp; exact is_rfl))
  have w3 : (IntKind.u8.wrap ((m : Int) / 256)).toNat = m / 256 % 256 := by rw [show (m : Int) / 256 = ((m / 256 : Nat) : Int) from rfl, w2]; exact Int.toNat_natCast _
  have w4 : ((m : Int) % 256).toNat = m % 256 := by omega
  simp [w3, w4]

theorem PutR_eq (n : Int) (hn : n ≤ 9223372036854775807) : bodyW DC 84 [.int .i64 n, .int .i64 2] [] = some (.str (put2 n), []) := by
  unfold put2
  by_cases h0 : n < 0
  · have hz : n.toNat = 0 := by omega
    (refine gives_iff ?_; refine go_func Tryz.f84 rfl rfl (by simp [Tryz.f84]) ?_; dsimp only [codeL, Tryz.f84, scL, sopsL, guardL, dstAt, loopKey])
    (repeat (first
    | (apply is_ok; (case hw => simp [h0, room]); (case he => simp [h0, room]; exact is_rfl))
    | (apply op_no; (case hw => simp [h0, room]))
    | refine op_nil ?_ | refine next_normal ?_ | refine go_seq ?_ | refine go_region ?_ | refine go_skip ?_ | refine go_block ?_ | refine inb_normal ?_
    | (apply go_yes; (case hc => simp [h0, room])) | (apply go_no; (case hc => simp [h0, room]))
    | refine go_exit ?_ | refine next_exit ?_ | refine inb_here ?_ | refine inb_past (by decide) ?_ | refine go_ret ?_ | refine next_ret ?_ | refine inb_ret ?_
    | (apply go_unroll; (case hh => simp [h0, room]; exact is_rfl))))
    (apply ends_ok; (case h1 => simp; exact is_rfl); (case h2 => simp; exact is_rfl))
    simp [hz, show IntKind.u8.wrap 0 = 0 from rfl]
  · obtain ⟨m, rfl⟩ : ∃ m : Nat, n = m := ⟨n.toNat, by omega⟩
    have f1 : (m : Int).tmod 256 = ((m % 256 : Nat) : Int) := by rw [Int.tmod_eq_emod_of_nonneg (by omega)]; rfl
    have f2 : (m : Int).tdiv 256 = ((m / 256 : Nat) : Int) := by rw [Int.tdiv_eq_ediv_of_nonneg (by omega)]; rfl
    have f3 : ((m / 256 : Nat) : Int).tmod 256 = ((m / 256 % 256 : Nat) : Int) := by rw [Int.tmod_eq_emod_of_nonneg (by omega)]; rfl
    have f4 : ((m / 256 : Nat) : Int).tdiv 256 = ((m / 256 / 256 : Nat) : Int) := by rw [Int.tdiv_eq_ediv_of_nonneg (by omega)]; rfl
    have w1 : IntKind.u8.wrap ((m % 256 : Nat) : Int) = ((m % 256 : Nat) : Int) := by rw [wrap_u8_nat]; omega
    have w2 : IntKind.u8.wrap ((m / 256 % 256 : Nat) : Int) = ((m / 256 % 256 : Nat) : Int) := by rw [wrap_u8_nat]; omega
    have w3 : IntKind.i64.wrap ((m / 256 : Nat) : Int) = ((m / 256 : Nat) : Int) := wrap_id (by omega) (by omega)
    have w4 : IntKind.i64.wrap ((m / 256 / 256 : Nat) : Int) = ((m / 256 / 256 : Nat) : Int) := wrap_id (by omega) (by omega)
    (refine gives_iff ?_; refine go_func Tryz.f84 rfl rfl (by simp [Tryz.f84]) ?_; dsimp only [codeL, Tryz.f84, scL, sopsL, guardL, dstAt, loopKey])
    generalize ha : m % 256 = a at *
    generalize hb : m / 256 = b at *
    generalize hc : b % 256 = c at *
    generalize b / 256 = d at *
    (repeat (first
    | (apply is_ok; (case hw => simp [h0, room, f1, f2, f3, f4, w1, w2, w3, w4]); (case he => simp [h0, room, f1, f2, f3, f4, w1, w2, w3, w4]; exact is_rfl))
    | (apply op_no; (case hw => simp [h0, room, f1, f2, f3, f4, w1, w2, w3, w4]))
    | refine op_nil ?_ | refine next_normal ?_ | refine go_seq ?_ | refine go_region ?_ | refine go_skip ?_ | refine go_block ?_ | refine inb_normal ?_
    | (apply go_yes; (case hc => simp [h0, room, f1, f2, f3, f4, w1, w2, w3, w4])) | (apply go_no; (case hc => simp [h0, room, f1, f2, f3, f4, w1, w2, w3, w4]))
    | refine go_exit ?_ | refine next_exit ?_ | refine inb_here ?_ | refine inb_past (by decide) ?_ | refine go_ret ?_ | refine next_ret ?_ | refine inb_ret ?_
    | (apply go_unroll; (case hh => simp [h0, room, f1, f2, f3, f4, w1, w2, w3, w4]; exact is_rfl))))
    (apply ends_ok; (case h1 => simp; exact is_rfl); (case h2 => simp; exact is_rfl))
    simp [ha, hb, hc]

end Go.Abs

namespace Go.Abs
open Go.Proofs
set_option maxRecDepth 100000
set_option linter.unusedSimpArgs false
set_option linter.unusedVariables false

abbrev inoV (k l z : Int) (L : List Int) : V := .agg (.int .i64 k :: .int .i64 l :: .int .i64 z :: ints L)
@[simp] theorem put2_length (n : Int) : (put2 n).length = 2 := rfl
def bytesI (k l z : Int) (L : List Int) : List UInt8 := put2 k ++ (put2 l ++ (put2 z ++ (L.flatMap put2 ++ List.replicate 10 0)))
/-- Numbers of 64 bits. -/
def In64 (L : List Int) : Prop := ∀ x ∈ L, -9223372036854775808 ≤ x ∧ x ≤ 9223372036854775807

theorem Bytes_eq (k l z : Int) (L : List Int) (hL : L.length = 8) (hX : In64 (k :: l :: z :: L)) : bodyW DC 144 [inoV k l z L] [] = some (.str (bytesI k l z L), []) := by
  match L, hL with
  | [a, b, c, d, e, f, g, h], _ =>
    have b1 := (hX k (by simp)).2
    have b2 := (hX l (by simp)).2
    have b3 := (hX z (by simp)).2
    have b4 := (hX a (by simp)).2
    have b5 := (hX b (by simp)).2
    have b6 := (hX c (by simp)).2
    have b7 := (hX d (by simp)).2
    have b8 := (hX e (by simp)).2
    have b9 := (hX f (by simp)).2
    have c1 := (hX g (by simp)).2
    have c2 := (hX h (by simp)).2
    clear hX
    (refine gives_iff ?_; refine go_func Tryz.f144 rfl rfl (by simp [Tryz.f144]) ?_; dsimp only [codeL, Tryz.f144, scL, sopsL, guardL, dstAt, loopKey])
    (repeat (first
    | (apply is_ok; (case hw => simp [Put_eq, b1, b2, b3, b4, b5, b6, b7, b8, b9, c1, c2, room]); (case he => simp [Put_eq, b1, b2, b3, b4, b5, b6, b7, b8, b9, c1, c2, room]; exact is_rfl))
    | (apply op_no; (case hw => simp [Put_eq, b1, b2, b3, b4, b5, b6, b7, b8, b9, c1, c2, room]))
    | refine op_nil ?_ | refine next_normal ?_ | refine go_seq ?_ | refine go_region ?_ | refine go_skip ?_ | refine go_block ?_ | refine inb_normal ?_
    | (apply go_yes; (case hc => simp [Put_eq, b1, b2, b3, b4, b5, b6, b7, b8, b9, c1, c2, room])) | (apply go_no; (case hc => simp [Put_eq, b1, b2, b3, b4, b5, b6, b7, b8, b9, c1, c2, room]))
    | refine go_exit ?_ | refine next_exit ?_ | refine inb_here ?_ | refine inb_past (by decide) ?_ | refine go_ret ?_ | refine next_ret ?_ | refine inb_ret ?_
    | (apply go_unroll; (case hh => simp [Put_eq, b1, b2, b3, b4, b5, b6, b7, b8, b9, c1, c2, room]; exact is_rfl))))
    (apply ends_ok; (case h1 => simp; exact is_rfl); (case h2 => simp; exact is_rfl))
    simp [bytesI]

theorem BytesR_eq (k l z : Int) (L : List Int) (hL : L.length = 8) (hX : In64 (k :: l :: z :: L)) : bodyW DC 111 [inoV k l z L] [] = some (.str (bytesI k l z L), []) := by
  match L, hL with
  | [a, b, c, d, e, f, g, h], _ =>
    have b1 := (hX k (by simp)).2
    have b2 := (hX l (by simp)).2
    have b3 := (hX z (by simp)).2
    have b4 := (hX a (by simp)).2
    have b5 := (hX b (by simp)).2
    have b6 := (hX c (by simp)).2
    have b7 := (hX d (by simp)).2
    have b8 := (hX e (by simp)).2
    have b9 := (hX f (by simp)).2
    have c1 := (hX g (by simp)).2
    have c2 := (hX h (by simp)).2
    clear hX
    (refine gives_iff ?_; refine go_func Tryz.f111 rfl rfl (by simp [Tryz.f111]) ?_; dsimp only [codeL, Tryz.f111, scL, sopsL, guardL, dstAt, loopKey])
    (repeat (first
    | (apply is_ok; (case hw => simp [PutR_eq, b1, b2, b3, b4, b5, b6, b7, b8, b9, c1, c2, room]); (case he => simp [PutR_eq, b1, b2, b3, b4, b5, b6, b7, b8, b9, c1, c2, room]; exact is_rfl))
    | (apply op_no; (case hw => simp [PutR_eq, b1, b2, b3, b4, b5, b6, b7, b8, b9, c1, c2, room]))
    | refine op_nil ?_ | refine next_normal ?_ | refine go_seq ?_ | refine go_region ?_ | refine go_skip ?_ | refine go_block ?_ | refine inb_normal ?_
    | (apply go_yes; (case hc => simp [PutR_eq, b1, b2, b3, b4, b5, b6, b7, b8, b9, c1, c2, room])) | (apply go_no; (case hc => simp [PutR_eq, b1, b2, b3, b4, b5, b6, b7, b8, b9, c1, c2, room]))
    | refine go_exit ?_ | refine next_exit ?_ | refine inb_here ?_ | refine inb_past (by decide) ?_ | refine go_ret ?_ | refine next_ret ?_ | refine inb_ret ?_
    | (apply go_unroll; (case hh => simp [PutR_eq, b1, b2, b3, b4, b5, b6, b7, b8, b9, c1, c2, room]; exact is_rfl))))
    (apply ends_ok; (case h1 => simp; exact is_rfl); (case h2 => simp; exact is_rfl))
    simp [bytesI]

end Go.Abs

namespace Go.Abs
open Go.Proofs
set_option maxRecDepth 100000
set_option linter.unusedSimpArgs false
set_option linter.unusedVariables false

theorem eqL_ino (k l z k' l' z' : Int) (L M : List Int) (hL : L.length = 8) (hM : M.length = 8) :
    eqL Tryz.prog 10000 90 (.int .i64 k :: .int .i64 l :: .int .i64 z :: ints L) (.int .i64 k' :: .int .i64 l' :: .int .i64 z' :: ints M) = some (decide (k = k' ∧ l = l' ∧ z = z' ∧ L = M)) := by
  have s1 : Tryz.prog.stoodInHeld 90 = false := by kernel_rfl
  have o1 : okT Tryz.prog 3 = true := by kernel_rfl
  have o2 : okT Tryz.prog 88 = true := by kernel_rfl
  have z1 : sizeL Tryz.prog 3 = 1 := by kernel_rfl
  have z2 : sizeL Tryz.prog 88 = 8 := by kernel_rfl
  match L, hL, M, hM with
  | [a, b, c, d, e, f, g, h], _, [a', b', c', d', e', f', g', h'], _ =>
    rw [show (10000 : Nat) = 9997 + 3 from rfl]
    generalize 9997 = n
    simp [eqL, eqFs, eqNs, s1, o1, o2, z1, z2, List.range_succ, Tryz.underlying90, Tryz.underlying88, Tryz.underlying3]
    rfl

theorem eq_ino (k l z k' l' z' : Int) (L M : List Int) (hL : L.length = 8) (hM : M.length = 8) :
    binV Tryz.prog .eql 90 (inoV k l z L) (inoV k' l' z' M) = some (.bool (decide (k = k' ∧ l = l' ∧ z = z' ∧ L = M))) ∧ binV Tryz.prog .neq 90 (inoV k l z L) (inoV k' l' z' M) = some (.bool (!decide (k = k' ∧ l = l' ∧ z = z' ∧ L = M))) := by
  have he := eqL_ino k l z k' l' z' L M hL hM
  match L, hL, M, hM with
  | [a, b, c, d, e, f, g, h], _, [a', b', c', d', e', f', g', h'], _ => exact binV_agg (d := 10000) rfl (by kernel_rfl) (by kernel_rfl) rfl rfl he

def validI (k l z : Int) (L : List Int) : Prop := if k = 0 then l = 0 ∧ z = 0 ∧ L = List.replicate 8 0
  else (k = 1 ∨ k = 2) ∧ 0 ≤ l ∧ l ≤ 32 ∧ 0 ≤ z ∧ z ≤ 1024 ∧ ∀ i ∈ List.range 8, 0 ≤ L.getD i 0 ∧ L.getD i 0 ≤ 65535 ∧ (L.getD i 0 ≠ 0 ↔ (i : Int) < (z + 127) / 128)
instance (k l z : Int) (L : List Int) : Decidable (validI k l z L) := by unfold validI; infer_instance

theorem sub_ino {k l z : Int} {L : List Int} {i : Nat} (h : i < L.length) : sub Tryz.prog 3 (.agg (.int .i64 k :: .int .i64 l :: .int .i64 z :: ints L)) (3 + i) = some (.int .i64 (L[i]'h)) := by
  unfold sub
  have e : ((V.int .i64 k :: .int .i64 l :: .int .i64 z :: ints L).drop (3 + i)).take 1 = [.int .i64 (L[i]'h)] := by
    rw [show 3 + i = i + 1 + 1 + 1 by omega]
    simp only [List.drop_succ_cons]
    rw [List.drop_eq_getElem_cons (by simpa using h)]
    simp
  simp only [inf3, Option.map_some, tsz3, cells_agg, e]
  rw [if_neg (by omega), if_pos (by simp; omega)]
  simp [mk]
theorem sub_arr {L : List Int} {i : Nat} (h : i < L.length) : sub Tryz.prog 3 (.agg (ints L)) i = some (.int .i64 (L[i]'h)) := by
  unfold sub
  have e : ((ints L).drop i).take 1 = [.int .i64 (L[i]'h)] := by
    rw [List.drop_eq_getElem_cons (by simpa using h)]
    simp
  simp only [inf3, Option.map_some, tsz3, cells_agg, e]
  rw [if_neg (by simp), if_pos (by simp; omega)]
  simp [mk]

theorem quo_z {z : Int} (h0 : 0 ≤ z) (h1 : z ≤ 1024) : IntKind.i64.wrap ((IntKind.i64.wrap (IntKind.i64.wrap (z + 128) - 1)).tdiv 128) = (z + 127) / 128 := by
  rw [wrap_id (x := z + 128) (by omega) (by omega), wrap_id (x := z + 128 - 1) (by omega) (by omega), Int.tdiv_eq_ediv_of_nonneg (by omega), wrap_id (by omega) (by omega)]
  congr 1
  omega

set_option maxHeartbeats 4000000 in
theorem ValidR_eq (k l z : Int) (L : List Int) (hL : L.length = 8) (hL8 : In64 L) : bodyW DC 110 [inoV k l z L] [] = some (.bool (decide (validI k l z L)), []) := by
  have h8 := (eq_ino k l z 0 0 0 L (List.replicate 8 0) hL rfl).1
  simp only [inoV, ints, List.replicate, List.map_cons, List.map_nil] at h8
  (refine gives_iff ?_; refine go_func Tryz.f110 rfl rfl (by simp [Tryz.f110]) ?_; dsimp only [codeL, Tryz.f110, scL, sopsL, guardL, dstAt, loopKey])
  by_cases h0 : k = 0
  · subst h0
    (repeat (first
    | (apply is_ok; (case hw => simp [hL]); (case he => simp [hL]; exact is_rfl))
    | (apply op_no; (case hw => simp [hL]))
    | refine op_nil ?_ | refine next_normal ?_ | refine go_seq ?_ | refine go_region ?_ | refine go_skip ?_ | refine go_block ?_ | refine inb_normal ?_
    | (apply go_yes; (case hc => simp [hL])) | (apply go_no; (case hc => simp [hL]))
    | refine go_exit ?_ | refine next_exit ?_ | refine inb_here ?_ | refine inb_past (by decide) ?_ | refine go_ret ?_ | refine next_ret ?_ | refine inb_ret ?_))
    (repeat (first
    | (apply is_ok; (case hw => simp [-binV, h8]); (case he => simp [-binV, h8]; exact is_rfl))
    | (apply op_no; (case hw => simp [-binV, h8]))
    | refine op_nil ?_ | refine next_normal ?_ | refine go_seq ?_ | refine go_region ?_ | refine go_skip ?_ | refine go_block ?_ | refine inb_normal ?_
    | (apply go_yes; (case hc => simp [-binV, h8])) | (apply go_no; (case hc => simp [-binV, h8]))
    | refine go_exit ?_ | refine next_exit ?_ | refine inb_here ?_ | refine inb_past (by decide) ?_ | refine go_ret ?_ | refine next_ret ?_ | refine inb_ret ?_))
    (apply ends_ok; (case h1 => simp; exact is_rfl); (case h2 => simp; exact is_rfl))
    simp [validI, List.replicate]
  by_cases h1 : k = 1 ∨ k = 2
  case neg =>
    have h2 : ¬ k = 1 := fun h => h1 (.inl h)
    have h3 : ¬ k = 2 := fun h => h1 (.inr h)
    (repeat (first
    | (apply is_ok; (case hw => simp [hL, h0, h2, h3]); (case he => simp [hL, h0, h2, h3]; exact is_rfl))
    | (apply op_no; (case hw => simp [hL, h0, h2, h3]))
    | refine op_nil ?_ | refine next_normal ?_ | refine go_seq ?_ | refine go_region ?_ | refine go_skip ?_ | refine go_block ?_ | refine inb_normal ?_
    | (apply go_yes; (case hc => simp [hL, h0, h2, h3])) | (apply go_no; (case hc => simp [hL, h0, h2, h3]))
    | refine go_exit ?_ | refine next_exit ?_ | refine inb_here ?_ | refine inb_past (by decide) ?_ | refine go_ret ?_ | refine next_ret ?_ | refine inb_ret ?_))
    (apply ends_ok; (case h1 => simp; exact is_rfl); (case h2 => simp; exact is_rfl))
    simp [validI, h0, h2, h3]
  have hk : (k = 1) ∨ (¬ k = 1 ∧ k = 2) := by omega
  have fail : ∀ (P : Prop), (validI k l z L → P) → ¬ P → ¬ validI k l z L := fun P h1 h2 h => h2 (h1 h)
  by_cases hl0 : 0 ≤ l
  case neg =>
    have hl0' : l < 0 := by omega
    have hv := fail (0 ≤ l) (fun h => by unfold validI at h; rw [if_neg h0] at h; exact h.2.1) hl0
    rcases hk with hk | ⟨hk1, hk2⟩
    · (repeat (first
    | (apply is_ok; (case hw => simp [hL, h0, hk, hl0, hl0']); (case he => simp [hL, h0, hk, hl0, hl0']; exact is_rfl))
    | (apply op_no; (case hw => simp [hL, h0, hk, hl0, hl0']))
    | refine op_nil ?_ | refine next_normal ?_ | refine go_seq ?_ | refine go_region ?_ | refine go_skip ?_ | refine go_block ?_ | refine inb_normal ?_
    | (apply go_yes; (case hc => simp [hL, h0, hk, hl0, hl0'])) | (apply go_no; (case hc => simp [hL, h0, hk, hl0, hl0']))
    | refine go_exit ?_ | refine next_exit ?_ | refine inb_here ?_ | refine inb_past (by decide) ?_ | refine go_ret ?_ | refine next_ret ?_ | refine inb_ret ?_))
      (apply ends_ok; (case h1 => simp; exact is_rfl); (case h2 => simp; exact is_rfl))
      simp [hv]
    · (repeat (first
    | (apply is_ok; (case hw => simp [hL, h0, hk1, hk2, hl0, hl0']); (case he => simp [hL, h0, hk1, hk2, hl0, hl0']; exact is_rfl))
    | (apply op_no; (case hw => simp [hL, h0, hk1, hk2, hl0, hl0']))
    | refine op_nil ?_ | refine next_normal ?_ | refine go_seq ?_ | refine go_region ?_ | refine go_skip ?_ | refine go_block ?_ | refine inb_normal ?_
    | (apply go_yes; (case hc => simp [hL, h0, hk1, hk2, hl0, hl0'])) | (apply go_no; (case hc => simp [hL, h0, hk1, hk2, hl0, hl0']))
    | refine go_exit ?_ | refine next_exit ?_ | refine inb_here ?_ | refine inb_past (by decide) ?_ | refine go_ret ?_ | refine next_ret ?_ | refine inb_ret ?_))
      (apply ends_ok; (case h1 => simp; exact is_rfl); (case h2 => simp; exact is_rfl))
      simp [hv]
  have hl0' : ¬ l < 0 := by omega
  by_cases hl1 : l ≤ 32
  case neg =>
    have hl1' : 32 < l := by omega
    have hv := fail (l ≤ 32) (fun h => by unfold validI at h; rw [if_neg h0] at h; exact h.2.2.1) hl1
    rcases hk with hk | ⟨hk1, hk2⟩
    · (repeat (first
    | (apply is_ok; (case hw => simp [hL, h0, hk, hl0, hl0', hl1, hl1']); (case he => simp [hL, h0, hk, hl0, hl0', hl1, hl1']; exact is_rfl))
    | (apply op_no; (case hw => simp [hL, h0, hk, hl0, hl0', hl1, hl1']))
    | refine op_nil ?_ | refine next_normal ?_ | refine go_seq ?_ | refine go_region ?_ | refine go_skip ?_ | refine go_block ?_ | refine inb_normal ?_
    | (apply go_yes; (case hc => simp [hL, h0, hk, hl0, hl0', hl1, hl1'])) | (apply go_no; (case hc => simp [hL, h0, hk, hl0, hl0', hl1, hl1']))
    | refine go_exit ?_ | refine next_exit ?_ | refine inb_here ?_ | refine inb_past (by decide) ?_ | refine go_ret ?_ | refine next_ret ?_ | refine inb_ret ?_))
      (apply ends_ok; (case h1 => simp; exact is_rfl); (case h2 => simp; exact is_rfl))
      simp [hv]
    · (repeat (first
    | (apply is_ok; (case hw => simp [hL, h0, hk1, hk2, hl0, hl0', hl1, hl1']); (case he => simp [hL, h0, hk1, hk2, hl0, hl0', hl1, hl1']; exact is_rfl))
    | (apply op_no; (case hw => simp [hL, h0, hk1, hk2, hl0, hl0', hl1, hl1']))
    | refine op_nil ?_ | refine next_normal ?_ | refine go_seq ?_ | refine go_region ?_ | refine go_skip ?_ | refine go_block ?_ | refine inb_normal ?_
    | (apply go_yes; (case hc => simp [hL, h0, hk1, hk2, hl0, hl0', hl1, hl1'])) | (apply go_no; (case hc => simp [hL, h0, hk1, hk2, hl0, hl0', hl1, hl1']))
    | refine go_exit ?_ | refine next_exit ?_ | refine inb_here ?_ | refine inb_past (by decide) ?_ | refine go_ret ?_ | refine next_ret ?_ | refine inb_ret ?_))
      (apply ends_ok; (case h1 => simp; exact is_rfl); (case h2 => simp; exact is_rfl))
      simp [hv]
  have hl1' : ¬ 32 < l := by omega
  by_cases hz0 : 0 ≤ z
  case neg =>
    have hz0' : z < 0 := by omega
    have hv := fail (0 ≤ z) (fun h => by unfold validI at h; rw [if_neg h0] at h; exact h.2.2.2.1) hz0
    rcases hk with hk | ⟨hk1, hk2⟩
    · (repeat (first
    | (apply is_ok; (case hw => simp [hL, h0, hk, hl0, hl0', hl1, hl1', hz0, hz0']); (case he => simp [hL, h0, hk, hl0, hl0', hl1, hl1', hz0, hz0']; exact is_rfl))
    | (apply op_no; (case hw => simp [hL, h0, hk, hl0, hl0', hl1, hl1', hz0, hz0']))
    | refine op_nil ?_ | refine next_normal ?_ | refine go_seq ?_ | refine go_region ?_ | refine go_skip ?_ | refine go_block ?_ | refine inb_normal ?_
    | (apply go_yes; (case hc => simp [hL, h0, hk, hl0, hl0', hl1, hl1', hz0, hz0'])) | (apply go_no; (case hc => simp [hL, h0, hk, hl0, hl0', hl1, hl1', hz0, hz0']))
    | refine go_exit ?_ | refine next_exit ?_ | refine inb_here ?_ | refine inb_past (by decide) ?_ | refine go_ret ?_ | refine next_ret ?_ | refine inb_ret ?_))
      (apply ends_ok; (case h1 => simp; exact is_rfl); (case h2 => simp; exact is_rfl))
      simp [hv]
    · (repeat (first
    | (apply is_ok; (case hw => simp [hL, h0, hk1, hk2, hl0, hl0', hl1, hl1', hz0, hz0']); (case he => simp [hL, h0, hk1, hk2, hl0, hl0', hl1, hl1', hz0, hz0']; exact is_rfl))
    | (apply op_no; (case hw => simp [hL, h0, hk1, hk2, hl0, hl0', hl1, hl1', hz0, hz0']))
    | refine op_nil ?_ | refine next_normal ?_ | refine go_seq ?_ | refine go_region ?_ | refine go_skip ?_ | refine go_block ?_ | refine inb_normal ?_
    | (apply go_yes; (case hc => simp [hL, h0, hk1, hk2, hl0, hl0', hl1, hl1', hz0, hz0'])) | (apply go_no; (case hc => simp [hL, h0, hk1, hk2, hl0, hl0', hl1, hl1', hz0, hz0']))
    | refine go_exit ?_ | refine next_exit ?_ | refine inb_here ?_ | refine inb_past (by decide) ?_ | refine go_ret ?_ | refine next_ret ?_ | refine inb_ret ?_))
      (apply ends_ok; (case h1 => simp; exact is_rfl); (case h2 => simp; exact is_rfl))
      simp [hv]
  have hz0' : ¬ z < 0 := by omega
  by_cases hz1 : z ≤ 1024
  case neg =>
    have hz1' : 1024 < z := by omega
    have hv := fail (z ≤ 1024) (fun h => by unfold validI at h; rw [if_neg h0] at h; exact h.2.2.2.2.1) hz1
    rcases hk with hk | ⟨hk1, hk2⟩
    · (repeat (first
    | (apply is_ok; (case hw => simp [hL, h0, hk, hl0, hl0', hl1, hl1', hz0, hz0', hz1, hz1']); (case he => simp [hL, h0, hk, hl0, hl0', hl1, hl1', hz0, hz0', hz1, hz1']; exact is_rfl))
    | (apply op_no; (case hw => simp [hL, h0, hk, hl0, hl0', hl1, hl1', hz0, hz0', hz1, hz1']))
    | refine op_nil ?_ | refine next_normal ?_ | refine go_seq ?_ | refine go_region ?_ | refine go_skip ?_ | refine go_block ?_ | refine inb_normal ?_
    | (apply go_yes; (case hc => simp [hL, h0, hk, hl0, hl0', hl1, hl1', hz0, hz0', hz1, hz1'])) | (apply go_no; (case hc => simp [hL, h0, hk, hl0, hl0', hl1, hl1', hz0, hz0', hz1, hz1']))
    | refine go_exit ?_ | refine next_exit ?_ | refine inb_here ?_ | refine inb_past (by decide) ?_ | refine go_ret ?_ | refine next_ret ?_ | refine inb_ret ?_))
      (apply ends_ok; (case h1 => simp; exact is_rfl); (case h2 => simp; exact is_rfl))
      simp [hv]
    · (repeat (first
    | (apply is_ok; (case hw => simp [hL, h0, hk1, hk2, hl0, hl0', hl1, hl1', hz0, hz0', hz1, hz1']); (case he => simp [hL, h0, hk1, hk2, hl0, hl0', hl1, hl1', hz0, hz0', hz1, hz1']; exact is_rfl))
    | (apply op_no; (case hw => simp [hL, h0, hk1, hk2, hl0, hl0', hl1, hl1', hz0, hz0', hz1, hz1']))
    | refine op_nil ?_ | refine next_normal ?_ | refine go_seq ?_ | refine go_region ?_ | refine go_skip ?_ | refine go_block ?_ | refine inb_normal ?_
    | (apply go_yes; (case hc => simp [hL, h0, hk1, hk2, hl0, hl0', hl1, hl1', hz0, hz0', hz1, hz1'])) | (apply go_no; (case hc => simp [hL, h0, hk1, hk2, hl0, hl0', hl1, hl1', hz0, hz0', hz1, hz1']))
    | refine go_exit ?_ | refine next_exit ?_ | refine inb_here ?_ | refine inb_past (by decide) ?_ | refine go_ret ?_ | refine next_ret ?_ | refine inb_ret ?_))
      (apply ends_ok; (case h1 => simp; exact is_rfl); (case h2 => simp; exact is_rfl))
      simp [hv]
  have hz1' : ¬ 1024 < z := by omega
  have hq := quo_z hz0 hz1
  have okI : (∀ i (hi : i < L.length), 0 ≤ L[i] ∧ L[i] ≤ 65535 ∧ (L[i] ≠ 0 ↔ (i : Int) < (z + 127) / 128)) ↔ validI k l z L := by
    unfold validI
    rw [if_neg h0]
    constructor
    · intro h
      exact ⟨h1, hl0, hl1, hz0, hz1, fun i hi => by
        have hi' : i < L.length := by have := List.mem_range.1 hi; omega
        have := h i hi'
        simpa [hi'] using this⟩
    · intro h i hi
      have := h.2.2.2.2.2 i (List.mem_range.2 (by omega))
      simpa [hi] using this
  generalize (z + 127) / 128 = n at hq okI
  suffices hs : ∀ (R : Bool), R = decide (validI k l z L) → Go1 DC 110 ([] : Heap).length (codeL Tryz.f110) (argEnv [inoV k l z L] 0) [] (Ends DC Tryz.f110.results.toList ([] : Heap).length fun r' h' => r' = .bool R ∧ h' = []) from hs _ rfl
  intro R hR
  dsimp only [codeL, Tryz.f110, scL, sopsL, guardL, dstAt, loopKey]
  rcases hk with hk | ⟨hk1, hk2⟩
  · (repeat (first
    | (apply is_ok; (case hw => simp [hL, h0, hk, hl0, hl0', hl1, hl1', hz0, hz0', hz1, hz1', hq]); (case he => simp [hL, h0, hk, hl0, hl0', hl1, hl1', hz0, hz0', hz1, hz1', hq]; exact is_rfl))
    | (apply op_no; (case hw => simp [hL, h0, hk, hl0, hl0', hl1, hl1', hz0, hz0', hz1, hz1', hq]))
    | refine op_nil ?_ | refine next_normal ?_ | refine go_seq ?_ | refine go_region ?_ | refine go_skip ?_ | refine go_block ?_ | refine inb_normal ?_
    | (apply go_yes; (case hc => simp [hL, h0, hk, hl0, hl0', hl1, hl1', hz0, hz0', hz1, hz1', hq])) | (apply go_no; (case hc => simp [hL, h0, hk, hl0, hl0', hl1, hl1', hz0, hz0', hz1, hz1', hq]))
    | refine go_exit ?_ | refine next_exit ?_ | refine inb_here ?_ | refine inb_past (by decide) ?_ | refine go_ret ?_ | refine next_ret ?_ | refine inb_ret ?_))
    refine go_count 8 (fun i => [(1, .ptr 0 1 0 0), (3, .int .i64 n), (4, .int .i64 i)]) (fun _ => [.box (inoV k l z L)]) (fun i => ∀ j (hj : j < L.length), j < i → 0 ≤ L[j] ∧ L[j] ≤ 65535 ∧ (L[j] ≠ 0 ↔ (j : Int) < n)) (by simp [hk]) (by simp) fun i hi hI => ?_
    by_cases hlt : i < 8
    · have hli : i < L.length := by omega
      have hw : IntKind.i64.wrap ((i : Int) + 1) = (i : Int) + 1 := wrap_id (by omega) (by omega)
      have hs := sub_ino (k := k) (l := l) (z := z) hli
      have hlt' : (i : Int) < 8 := by omega
      generalize hx : L[i] = x at hs
      have fin : ¬ (0 ≤ x ∧ x ≤ 65535 ∧ (x ≠ 0 ↔ (i : Int) < n)) → R = false := fun h => by rw [hR]; exact decide_eq_false fun hv => h (by have := okI.2 hv i hli; rwa [hx] at this)
      by_cases g1 : 0 ≤ x
      case neg =>
        have g1' : x < 0 := by omega
        (repeat (first
    | (apply is_ok; (case hw => simp [hL, hlt, hlt', hs, g1, g1']); (case he => simp [hL, hlt, hlt', hs, g1, g1']; exact is_rfl))
    | (apply op_no; (case hw => simp [hL, hlt, hlt', hs, g1, g1']))
    | refine op_nil ?_ | refine next_normal ?_ | refine go_seq ?_ | refine go_region ?_ | refine go_skip ?_ | refine go_block ?_ | refine inb_normal ?_
    | (apply go_yes; (case hc => simp [hL, hlt, hlt', hs, g1, g1'])) | (apply go_no; (case hc => simp [hL, hlt, hlt', hs, g1, g1']))
    | refine go_exit ?_ | refine next_exit ?_ | refine inb_here ?_ | refine inb_past (by decide) ?_ | refine go_ret ?_ | refine next_ret ?_ | refine inb_ret ?_))
        (apply ends_ok; (case h1 => simp; exact is_rfl); (case h2 => simp; exact is_rfl))
        simp [fin (fun h => g1 h.1)]
      have g1' : ¬ x < 0 := by omega
      by_cases g2 : x ≤ 65535
      case neg =>
        have g2' : 65535 < x := by omega
        (repeat (first
    | (apply is_ok; (case hw => simp [hL, hlt, hlt', hs, g1, g1', g2, g2']); (case he => simp [hL, hlt, hlt', hs, g1, g1', g2, g2']; exact is_rfl))
    | (apply op_no; (case hw => simp [hL, hlt, hlt', hs, g1, g1', g2, g2']))
    | refine op_nil ?_ | refine next_normal ?_ | refine go_seq ?_ | refine go_region ?_ | refine go_skip ?_ | refine go_block ?_ | refine inb_normal ?_
    | (apply go_yes; (case hc => simp [hL, hlt, hlt', hs, g1, g1', g2, g2'])) | (apply go_no; (case hc => simp [hL, hlt, hlt', hs, g1, g1', g2, g2']))
    | refine go_exit ?_ | refine next_exit ?_ | refine inb_here ?_ | refine inb_past (by decide) ?_ | refine go_ret ?_ | refine next_ret ?_ | refine inb_ret ?_))
        (apply ends_ok; (case h1 => simp; exact is_rfl); (case h2 => simp; exact is_rfl))
        simp [fin (fun h => g2 h.2.1)]
      have g2' : ¬ 65535 < x := by omega
      by_cases g3 : x = 0
      · by_cases g4 : (i : Int) < n
        · (repeat (first
    | (apply is_ok; (case hw => simp [hL, hlt, hlt', hs, g1, g1', g2, g2', g3, g4]); (case he => simp [hL, hlt, hlt', hs, g1, g1', g2, g2', g3, g4]; exact is_rfl))
    | (apply op_no; (case hw => simp [hL, hlt, hlt', hs, g1, g1', g2, g2', g3, g4]))
    | refine op_nil ?_ | refine next_normal ?_ | refine go_seq ?_ | refine go_region ?_ | refine go_skip ?_ | refine go_block ?_ | refine inb_normal ?_
    | (apply go_yes; (case hc => simp [hL, hlt, hlt', hs, g1, g1', g2, g2', g3, g4])) | (apply go_no; (case hc => simp [hL, hlt, hlt', hs, g1, g1', g2, g2', g3, g4]))
    | refine go_exit ?_ | refine next_exit ?_ | refine inb_here ?_ | refine inb_past (by decide) ?_ | refine go_ret ?_ | refine next_ret ?_ | refine inb_ret ?_))
          (apply ends_ok; (case h1 => simp; exact is_rfl); (case h2 => simp; exact is_rfl))
          simp [fin (fun h => (h.2.2.2 g4) g3)]
        · (repeat (first
    | (apply is_ok; (case hw => simp [hL, hlt, hlt', hs, g1, g1', g2, g2', g3, g4]); (case he => simp [hL, hlt, hlt', hs, g1, g1', g2, g2', g3, g4]; exact is_rfl))
    | (apply op_no; (case hw => simp [hL, hlt, hlt', hs, g1, g1', g2, g2', g3, g4]))
    | refine op_nil ?_ | refine next_normal ?_ | refine go_seq ?_ | refine go_region ?_ | refine go_skip ?_ | refine go_block ?_ | refine inb_normal ?_
    | (apply go_yes; (case hc => simp [hL, hlt, hlt', hs, g1, g1', g2, g2', g3, g4])) | (apply go_no; (case hc => simp [hL, hlt, hlt', hs, g1, g1', g2, g2', g3, g4]))
    | refine go_exit ?_ | refine next_exit ?_ | refine inb_here ?_ | refine inb_past (by decide) ?_ | refine go_ret ?_ | refine next_ret ?_ | refine inb_ret ?_))
          exact ⟨hlt, by simp [hw, hk], fun j hj hji => by
            by_cases hje : j = i
            · subst hje; rw [hx]; exact ⟨g1, g2, fun h => absurd g3 h, fun h => absurd h g4⟩
            · exact hI j hj (by omega)⟩
      · by_cases g4 : (i : Int) < n
        · (repeat (first
    | (apply is_ok; (case hw => simp [hL, hlt, hlt', hs, g1, g1', g2, g2', g3, g4]); (case he => simp [hL, hlt, hlt', hs, g1, g1', g2, g2', g3, g4]; exact is_rfl))
    | (apply op_no; (case hw => simp [hL, hlt, hlt', hs, g1, g1', g2, g2', g3, g4]))
    | refine op_nil ?_ | refine next_normal ?_ | refine go_seq ?_ | refine go_region ?_ | refine go_skip ?_ | refine go_block ?_ | refine inb_normal ?_
    | (apply go_yes; (case hc => simp [hL, hlt, hlt', hs, g1, g1', g2, g2', g3, g4])) | (apply go_no; (case hc => simp [hL, hlt, hlt', hs, g1, g1', g2, g2', g3, g4]))
    | refine go_exit ?_ | refine next_exit ?_ | refine inb_here ?_ | refine inb_past (by decide) ?_ | refine go_ret ?_ | refine next_ret ?_ | refine inb_ret ?_))
          exact ⟨hlt, by simp [hw, hk], fun j hj hji => by
            by_cases hje : j = i
            · subst hje; rw [hx]; exact ⟨g1, g2, fun _ => g4, fun _ => g3⟩
            · exact hI j hj (by omega)⟩
        · (repeat (first
    | (apply is_ok; (case hw => simp [hL, hlt, hlt', hs, g1, g1', g2, g2', g3, g4]); (case he => simp [hL, hlt, hlt', hs, g1, g1', g2, g2', g3, g4]; exact is_rfl))
    | (apply op_no; (case hw => simp [hL, hlt, hlt', hs, g1, g1', g2, g2', g3, g4]))
    | refine op_nil ?_ | refine next_normal ?_ | refine go_seq ?_ | refine go_region ?_ | refine go_skip ?_ | refine go_block ?_ | refine inb_normal ?_
    | (apply go_yes; (case hc => simp [hL, hlt, hlt', hs, g1, g1', g2, g2', g3, g4])) | (apply go_no; (case hc => simp [hL, hlt, hlt', hs, g1, g1', g2, g2', g3, g4]))
    | refine go_exit ?_ | refine next_exit ?_ | refine inb_here ?_ | refine inb_past (by decide) ?_ | refine go_ret ?_ | refine next_ret ?_ | refine inb_ret ?_))
          (apply ends_ok; (case h1 => simp; exact is_rfl); (case h2 => simp; exact is_rfl))
          simp [fin (fun h => g4 (h.2.2.1 g3))]
    · have hlt' : ¬ (i : Int) < 8 := by omega
      (repeat (first
    | (apply is_ok; (case hw => simp [hlt, hlt']); (case he => simp [hlt, hlt']; exact is_rfl))
    | (apply op_no; (case hw => simp [hlt, hlt']))
    | refine op_nil ?_ | refine next_normal ?_ | refine go_seq ?_ | refine go_region ?_ | refine go_skip ?_ | refine go_block ?_ | refine inb_normal ?_
    | (apply go_yes; (case hc => simp [hlt, hlt'])) | (apply go_no; (case hc => simp [hlt, hlt']))
    | refine go_exit ?_ | refine next_exit ?_ | refine inb_here ?_ | refine inb_past (by decide) ?_ | refine go_ret ?_ | refine next_ret ?_ | refine inb_ret ?_))
      (apply ends_ok; (case h1 => simp; exact is_rfl); (case h2 => simp; exact is_rfl))
      have : R = true := by rw [hR]; exact decide_eq_true (okI.1 fun j hj => hI j hj (by omega))
      simp [this]
  · (repeat (first
    | (apply is_ok; (case hw => simp [hL, h0, hk1, hk2, hl0, hl0', hl1, hl1', hz0, hz0', hz1, hz1', hq]); (case he => simp [hL, h0, hk1, hk2, hl0, hl0', hl1, hl1', hz0, hz0', hz1, hz1', hq]; exact is_rfl))
    | (apply op_no; (case hw => simp [hL, h0, hk1, hk2, hl0, hl0', hl1, hl1', hz0, hz0', hz1, hz1', hq]))
    | refine op_nil ?_ | refine next_normal ?_ | refine go_seq ?_ | refine go_region ?_ | refine go_skip ?_ | refine go_block ?_ | refine inb_normal ?_
    | (apply go_yes; (case hc => simp [hL, h0, hk1, hk2, hl0, hl0', hl1, hl1', hz0, hz0', hz1, hz1', hq])) | (apply go_no; (case hc => simp [hL, h0, hk1, hk2, hl0, hl0', hl1, hl1', hz0, hz0', hz1, hz1', hq]))
    | refine go_exit ?_ | refine next_exit ?_ | refine inb_here ?_ | refine inb_past (by decide) ?_ | refine go_ret ?_ | refine next_ret ?_ | refine inb_ret ?_))
    refine go_count 8 (fun i => [(1, .ptr 0 1 0 0), (3, .int .i64 n), (4, .int .i64 i)]) (fun _ => [.box (inoV k l z L)]) (fun i => ∀ j (hj : j < L.length), j < i → 0 ≤ L[j] ∧ L[j] ≤ 65535 ∧ (L[j] ≠ 0 ↔ (j : Int) < n)) (by simp [hk1, hk2]) (by simp) fun i hi hI => ?_
    by_cases hlt : i < 8
    · have hli : i < L.length := by omega
      have hw : IntKind.i64.wrap ((i : Int) + 1) = (i : Int) + 1 := wrap_id (by omega) (by omega)
      have hs := sub_ino (k := k) (l := l) (z := z) hli
      have hlt' : (i : Int) < 8 := by omega
      generalize hx : L[i] = x at hs
      have fin : ¬ (0 ≤ x ∧ x ≤ 65535 ∧ (x ≠ 0 ↔ (i : Int) < n)) → R = false := fun h => by rw [hR]; exact decide_eq_false fun hv => h (by have := okI.2 hv i hli; rwa [hx] at this)
      by_cases g1 : 0 ≤ x
      case neg =>
        have g1' : x < 0 := by omega
        (repeat (first
    | (apply is_ok; (case hw => simp [hL, hlt, hlt', hs, g1, g1']); (case he => simp [hL, hlt, hlt', hs, g1, g1']; exact is_rfl))
    | (apply op_no; (case hw => simp [hL, hlt, hlt', hs, g1, g1']))
    | refine op_nil ?_ | refine next_normal ?_ | refine go_seq ?_ | refine go_region ?_ | refine go_skip ?_ | refine go_block ?_ | refine inb_normal ?_
    | (apply go_yes; (case hc => simp [hL, hlt, hlt', hs, g1, g1'])) | (apply go_no; (case hc => simp [hL, hlt, hlt', hs, g1, g1']))
    | refine go_exit ?_ | refine next_exit ?_ | refine inb_here ?_ | refine inb_past (by decide) ?_ | refine go_ret ?_ | refine next_ret ?_ | refine inb_ret ?_))
        (apply ends_ok; (case h1 => simp; exact is_rfl); (case h2 => simp; exact is_rfl))
        simp [fin (fun h => g1 h.1)]
      have g1' : ¬ x < 0 := by omega
      by_cases g2 : x ≤ 65535
      case neg =>
        have g2' : 65535 < x := by omega
        (repeat (first
    | (apply is_ok; (case hw => simp [hL, hlt, hlt', hs, g1, g1', g2, g2']); (case he => simp [hL, hlt, hlt', hs, g1, g1', g2, g2']; exact is_rfl))
    | (apply op_no; (case hw => simp [hL, hlt, hlt', hs, g1, g1', g2, g2']))
    | refine op_nil ?_ | refine next_normal ?_ | refine go_seq ?_ | refine go_region ?_ | refine go_skip ?_ | refine go_block ?_ | refine inb_normal ?_
    | (apply go_yes; (case hc => simp [hL, hlt, hlt', hs, g1, g1', g2, g2'])) | (apply go_no; (case hc => simp [hL, hlt, hlt', hs, g1, g1', g2, g2']))
    | refine go_exit ?_ | refine next_exit ?_ | refine inb_here ?_ | refine inb_past (by decide) ?_ | refine go_ret ?_ | refine next_ret ?_ | refine inb_ret ?_))
        (apply ends_ok; (case h1 => simp; exact is_rfl); (case h2 => simp; exact is_rfl))
        simp [fin (fun h => g2 h.2.1)]
      have g2' : ¬ 65535 < x := by omega
      by_cases g3 : x = 0
      · by_cases g4 : (i : Int) < n
        · (repeat (first
    | (apply is_ok; (case hw => simp [hL, hlt, hlt', hs, g1, g1', g2, g2', g3, g4]); (case he => simp [hL, hlt, hlt', hs, g1, g1', g2, g2', g3, g4]; exact is_rfl))
    | (apply op_no; (case hw => simp [hL, hlt, hlt', hs, g1, g1', g2, g2', g3, g4]))
    | refine op_nil ?_ | refine next_normal ?_ | refine go_seq ?_ | refine go_region ?_ | refine go_skip ?_ | refine go_block ?_ | refine inb_normal ?_
    | (apply go_yes; (case hc => simp [hL, hlt, hlt', hs, g1, g1', g2, g2', g3, g4])) | (apply go_no; (case hc => simp [hL, hlt, hlt', hs, g1, g1', g2, g2', g3, g4]))
    | refine go_exit ?_ | refine next_exit ?_ | refine inb_here ?_ | refine inb_past (by decide) ?_ | refine go_ret ?_ | refine next_ret ?_ | refine inb_ret ?_))
          (apply ends_ok; (case h1 => simp; exact is_rfl); (case h2 => simp; exact is_rfl))
          simp [fin (fun h => (h.2.2.2 g4) g3)]
        · (repeat (first
    | (apply is_ok; (case hw => simp [hL, hlt, hlt', hs, g1, g1', g2, g2', g3, g4]); (case he => simp [hL, hlt, hlt', hs, g1, g1', g2, g2', g3, g4]; exact is_rfl))
    | (apply op_no; (case hw => simp [hL, hlt, hlt', hs, g1, g1', g2, g2', g3, g4]))
    | refine op_nil ?_ | refine next_normal ?_ | refine go_seq ?_ | refine go_region ?_ | refine go_skip ?_ | refine go_block ?_ | refine inb_normal ?_
    | (apply go_yes; (case hc => simp [hL, hlt, hlt', hs, g1, g1', g2, g2', g3, g4])) | (apply go_no; (case hc => simp [hL, hlt, hlt', hs, g1, g1', g2, g2', g3, g4]))
    | refine go_exit ?_ | refine next_exit ?_ | refine inb_here ?_ | refine inb_past (by decide) ?_ | refine go_ret ?_ | refine next_ret ?_ | refine inb_ret ?_))
          exact ⟨hlt, by simp [hw, hk1, hk2], fun j hj hji => by
            by_cases hje : j = i
            · subst hje; rw [hx]; exact ⟨g1, g2, fun h => absurd g3 h, fun h => absurd h g4⟩
            · exact hI j hj (by omega)⟩
      · by_cases g4 : (i : Int) < n
        · (repeat (first
    | (apply is_ok; (case hw => simp [hL, hlt, hlt', hs, g1, g1', g2, g2', g3, g4]); (case he => simp [hL, hlt, hlt', hs, g1, g1', g2, g2', g3, g4]; exact is_rfl))
    | (apply op_no; (case hw => simp [hL, hlt, hlt', hs, g1, g1', g2, g2', g3, g4]))
    | refine op_nil ?_ | refine next_normal ?_ | refine go_seq ?_ | refine go_region ?_ | refine go_skip ?_ | refine go_block ?_ | refine inb_normal ?_
    | (apply go_yes; (case hc => simp [hL, hlt, hlt', hs, g1, g1', g2, g2', g3, g4])) | (apply go_no; (case hc => simp [hL, hlt, hlt', hs, g1, g1', g2, g2', g3, g4]))
    | refine go_exit ?_ | refine next_exit ?_ | refine inb_here ?_ | refine inb_past (by decide) ?_ | refine go_ret ?_ | refine next_ret ?_ | refine inb_ret ?_))
          exact ⟨hlt, by simp [hw, hk1, hk2], fun j hj hji => by
            by_cases hje : j = i
            · subst hje; rw [hx]; exact ⟨g1, g2, fun _ => g4, fun _ => g3⟩
            · exact hI j hj (by omega)⟩
        · (repeat (first
    | (apply is_ok; (case hw => simp [hL, hlt, hlt', hs, g1, g1', g2, g2', g3, g4]); (case he => simp [hL, hlt, hlt', hs, g1, g1', g2, g2', g3, g4]; exact is_rfl))
    | (apply op_no; (case hw => simp [hL, hlt, hlt', hs, g1, g1', g2, g2', g3, g4]))
    | refine op_nil ?_ | refine next_normal ?_ | refine go_seq ?_ | refine go_region ?_ | refine go_skip ?_ | refine go_block ?_ | refine inb_normal ?_
    | (apply go_yes; (case hc => simp [hL, hlt, hlt', hs, g1, g1', g2, g2', g3, g4])) | (apply go_no; (case hc => simp [hL, hlt, hlt', hs, g1, g1', g2, g2', g3, g4]))
    | refine go_exit ?_ | refine next_exit ?_ | refine inb_here ?_ | refine inb_past (by decide) ?_ | refine go_ret ?_ | refine next_ret ?_ | refine inb_ret ?_))
          (apply ends_ok; (case h1 => simp; exact is_rfl); (case h2 => simp; exact is_rfl))
          simp [fin (fun h => g4 (h.2.2.1 g3))]
    · have hlt' : ¬ (i : Int) < 8 := by omega
      (repeat (first
    | (apply is_ok; (case hw => simp [hlt, hlt']); (case he => simp [hlt, hlt']; exact is_rfl))
    | (apply op_no; (case hw => simp [hlt, hlt']))
    | refine op_nil ?_ | refine next_normal ?_ | refine go_seq ?_ | refine go_region ?_ | refine go_skip ?_ | refine go_block ?_ | refine inb_normal ?_
    | (apply go_yes; (case hc => simp [hlt, hlt'])) | (apply go_no; (case hc => simp [hlt, hlt']))
    | refine go_exit ?_ | refine next_exit ?_ | refine inb_here ?_ | refine inb_past (by decide) ?_ | refine go_ret ?_ | refine next_ret ?_ | refine inb_ret ?_))
      (apply ends_ok; (case h1 => simp; exact is_rfl); (case h2 => simp; exact is_rfl))
      have : R = true := by rw [hR]; exact decide_eq_true (okI.1 fun j hj => hI j hj (by omega))
      simp [this]
end Go.Abs

namespace Go.Abs
open Go.Proofs
set_option maxRecDepth 100000
set_option linter.unusedSimpArgs false
set_option linter.unusedVariables false

theorem and_ffff (x : Int) : IntKind.i64.wrap ((BitVec.ofInt 64 x &&& 65535#64).toNat : Int) = x % 65536 := by
  have h : (BitVec.ofInt 64 x &&& 65535#64).toNat = (x % 18446744073709551616).toNat % 65536 := by
    rw [BitVec.toNat_and, BitVec.toNat_ofInt]
    exact Nat.and_two_pow_sub_one_eq_mod _ 16
  rw [h, wrap_id (by omega) (by omega)]
  omega

theorem intOp_and (x : Int) : intOp .and .i64 x 65535 = some (.int .i64 (x % 65536)) := by
  show some (V.int .i64 (IntKind.i64.wrap ((BitVec.ofInt 64 x &&& BitVec.ofInt 64 65535).toNat : Int))) = _
  rw [show BitVec.ofInt 64 65535 = 65535#64 from rfl, and_ffff x]
@[simp] theorem intOp_add (k : IntKind) (a b : Int) : intOp .add k a b = some (.int k (k.wrap (a + b))) := rfl
@[simp] theorem intOp_sub (k : IntKind) (a b : Int) : intOp .sub k a b = some (.int k (k.wrap (a - b))) := rfl
@[simp] theorem intOp_mul (k : IntKind) (a b : Int) : intOp .mul k a b = some (.int k (k.wrap (a * b))) := rfl
@[simp] theorem intOp_eql (k : IntKind) (a b : Int) : intOp .eql k a b = some (.bool (a == b)) := rfl
@[simp] theorem intOp_neq (k : IntKind) (a b : Int) : intOp .neq k a b = some (.bool (a != b)) := rfl
@[simp] theorem intOp_lss (k : IntKind) (a b : Int) : intOp .lss k a b = some (.bool (decide (a < b))) := rfl
@[simp] theorem intOp_leq (k : IntKind) (a b : Int) : intOp .leq k a b = some (.bool (decide (a ≤ b))) := rfl
@[simp] theorem intOp_gtr (k : IntKind) (a b : Int) : intOp .gtr k a b = some (.bool (decide (a > b))) := rfl
@[simp] theorem intOp_geq (k : IntKind) (a b : Int) : intOp .geq k a b = some (.bool (decide (a ≥ b))) := rfl

set_option maxHeartbeats 4000000 in
theorem Valid_eq (k l z : Int) (L : List Int) (hL : L.length = 8) (hL8 : In64 L) : bodyW DC 143 [inoV k l z L] [] = some (.bool (decide (validI k l z L)), []) := by
  have h8 := (eq_ino k l z 0 0 0 L (List.replicate 8 0) hL rfl).1
  simp only [inoV, ints, List.replicate, List.map_cons, List.map_nil] at h8
  (refine gives_iff ?_; refine go_func Tryz.f143 rfl rfl (by simp [Tryz.f143]) ?_; dsimp only [codeL, Tryz.f143, scL, sopsL, guardL, dstAt, loopKey])
  by_cases h0 : k = 0
  · subst h0
    (repeat (first
    | (apply is_ok; (case hw => simp [hL]); (case he => simp [hL]; exact is_rfl))
    | (apply op_no; (case hw => simp [hL]))
    | refine op_nil ?_ | refine next_normal ?_ | refine go_seq ?_ | refine go_region ?_ | refine go_skip ?_ | refine go_block ?_ | refine inb_normal ?_
    | (apply go_yes; (case hc => simp [hL])) | (apply go_no; (case hc => simp [hL]))
    | refine go_exit ?_ | refine next_exit ?_ | refine inb_here ?_ | refine inb_past (by decide) ?_ | refine go_ret ?_ | refine next_ret ?_ | refine inb_ret ?_))
    (repeat (first
    | (apply is_ok; (case hw => simp [-binV, h8]); (case he => simp [-binV, h8]; exact is_rfl))
    | (apply op_no; (case hw => simp [-binV, h8]))
    | refine op_nil ?_ | refine next_normal ?_ | refine go_seq ?_ | refine go_region ?_ | refine go_skip ?_ | refine go_block ?_ | refine inb_normal ?_
    | (apply go_yes; (case hc => simp [-binV, h8])) | (apply go_no; (case hc => simp [-binV, h8]))
    | refine go_exit ?_ | refine next_exit ?_ | refine inb_here ?_ | refine inb_past (by decide) ?_ | refine go_ret ?_ | refine next_ret ?_ | refine inb_ret ?_))
    (apply ends_ok; (case h1 => simp; exact is_rfl); (case h2 => simp; exact is_rfl))
    simp [validI, List.replicate]
  by_cases h1 : k = 1 ∨ k = 2
  case neg =>
    have h2 : ¬ k = 1 := fun h => h1 (.inl h)
    have h3 : ¬ k = 2 := fun h => h1 (.inr h)
    (repeat (first
    | (apply is_ok; (case hw => simp [hL, h0, h2, h3]); (case he => simp [hL, h0, h2, h3]; exact is_rfl))
    | (apply op_no; (case hw => simp [hL, h0, h2, h3]))
    | refine op_nil ?_ | refine next_normal ?_ | refine go_seq ?_ | refine go_region ?_ | refine go_skip ?_ | refine go_block ?_ | refine inb_normal ?_
    | (apply go_yes; (case hc => simp [hL, h0, h2, h3])) | (apply go_no; (case hc => simp [hL, h0, h2, h3]))
    | refine go_exit ?_ | refine next_exit ?_ | refine inb_here ?_ | refine inb_past (by decide) ?_ | refine go_ret ?_ | refine next_ret ?_ | refine inb_ret ?_))
    (apply ends_ok; (case h1 => simp; exact is_rfl); (case h2 => simp; exact is_rfl))
    simp [validI, h0, h2, h3]
  have hk : (k = 1) ∨ (¬ k = 1 ∧ k = 2) := by omega
  have fail : ∀ (P : Prop), (validI k l z L → P) → ¬ P → ¬ validI k l z L := fun P h1 h2 h => h2 (h1 h)
  by_cases hl0 : 0 ≤ l
  case neg =>
    have hl0' : l < 0 := by omega
    have hv := fail (0 ≤ l) (fun h => by unfold validI at h; rw [if_neg h0] at h; exact h.2.1) hl0
    rcases hk with hk | ⟨hk1, hk2⟩
    · (repeat (first
    | (apply is_ok; (case hw => simp [hL, h0, hk, hl0, hl0']); (case he => simp [hL, h0, hk, hl0, hl0']; exact is_rfl))
    | (apply op_no; (case hw => simp [hL, h0, hk, hl0, hl0']))
    | refine op_nil ?_ | refine next_normal ?_ | refine go_seq ?_ | refine go_region ?_ | refine go_skip ?_ | refine go_block ?_ | refine inb_normal ?_
    | (apply go_yes; (case hc => simp [hL, h0, hk, hl0, hl0'])) | (apply go_no; (case hc => simp [hL, h0, hk, hl0, hl0']))
    | refine go_exit ?_ | refine next_exit ?_ | refine inb_here ?_ | refine inb_past (by decide) ?_ | refine go_ret ?_ | refine next_ret ?_ | refine inb_ret ?_))
      (apply ends_ok; (case h1 => simp; exact is_rfl); (case h2 => simp; exact is_rfl))
      simp [hv]
    · (repeat (first
    | (apply is_ok; (case hw => simp [hL, h0, hk1, hk2, hl0, hl0']); (case he => simp [hL, h0, hk1, hk2, hl0, hl0']; exact is_rfl))
    | (apply op_no; (case hw => simp [hL, h0, hk1, hk2, hl0, hl0']))
    | refine op_nil ?_ | refine next_normal ?_ | refine go_seq ?_ | refine go_region ?_ | refine go_skip ?_ | refine go_block ?_ | refine inb_normal ?_
    | (apply go_yes; (case hc => simp [hL, h0, hk1, hk2, hl0, hl0'])) | (apply go_no; (case hc => simp [hL, h0, hk1, hk2, hl0, hl0']))
    | refine go_exit ?_ | refine next_exit ?_ | refine inb_here ?_ | refine inb_past (by decide) ?_ | refine go_ret ?_ | refine next_ret ?_ | refine inb_ret ?_))
      (apply ends_ok; (case h1 => simp; exact is_rfl); (case h2 => simp; exact is_rfl))
      simp [hv]
  have hl0' : ¬ l < 0 := by omega
  by_cases hl1 : l ≤ 32
  case neg =>
    have hl1' : 32 < l := by omega
    have hv := fail (l ≤ 32) (fun h => by unfold validI at h; rw [if_neg h0] at h; exact h.2.2.1) hl1
    rcases hk with hk | ⟨hk1, hk2⟩
    · (repeat (first
    | (apply is_ok; (case hw => simp [hL, h0, hk, hl0, hl0', hl1, hl1']); (case he => simp [hL, h0, hk, hl0, hl0', hl1, hl1']; exact is_rfl))
    | (apply op_no; (case hw => simp [hL, h0, hk, hl0, hl0', hl1, hl1']))
    | refine op_nil ?_ | refine next_normal ?_ | refine go_seq ?_ | refine go_region ?_ | refine go_skip ?_ | refine go_block ?_ | refine inb_normal ?_
    | (apply go_yes; (case hc => simp [hL, h0, hk, hl0, hl0', hl1, hl1'])) | (apply go_no; (case hc => simp [hL, h0, hk, hl0, hl0', hl1, hl1']))
    | refine go_exit ?_ | refine next_exit ?_ | refine inb_here ?_ | refine inb_past (by decide) ?_ | refine go_ret ?_ | refine next_ret ?_ | refine inb_ret ?_))
      (apply ends_ok; (case h1 => simp; exact is_rfl); (case h2 => simp; exact is_rfl))
      simp [hv]
    · (repeat (first
    | (apply is_ok; (case hw => simp [hL, h0, hk1, hk2, hl0, hl0', hl1, hl1']); (case he => simp [hL, h0, hk1, hk2, hl0, hl0', hl1, hl1']; exact is_rfl))
    | (apply op_no; (case hw => simp [hL, h0, hk1, hk2, hl0, hl0', hl1, hl1']))
    | refine op_nil ?_ | refine next_normal ?_ | refine go_seq ?_ | refine go_region ?_ | refine go_skip ?_ | refine go_block ?_ | refine inb_normal ?_
    | (apply go_yes; (case hc => simp [hL, h0, hk1, hk2, hl0, hl0', hl1, hl1'])) | (apply go_no; (case hc => simp [hL, h0, hk1, hk2, hl0, hl0', hl1, hl1']))
    | refine go_exit ?_ | refine next_exit ?_ | refine inb_here ?_ | refine inb_past (by decide) ?_ | refine go_ret ?_ | refine next_ret ?_ | refine inb_ret ?_))
      (apply ends_ok; (case h1 => simp; exact is_rfl); (case h2 => simp; exact is_rfl))
      simp [hv]
  have hl1' : ¬ 32 < l := by omega
  by_cases hz0 : 0 ≤ z
  case neg =>
    have hz0' : z < 0 := by omega
    have hv := fail (0 ≤ z) (fun h => by unfold validI at h; rw [if_neg h0] at h; exact h.2.2.2.1) hz0
    rcases hk with hk | ⟨hk1, hk2⟩
    · (repeat (first
    | (apply is_ok; (case hw => simp [hL, h0, hk, hl0, hl0', hl1, hl1', hz0, hz0']); (case he => simp [hL, h0, hk, hl0, hl0', hl1, hl1', hz0, hz0']; exact is_rfl))
    | (apply op_no; (case hw => simp [hL, h0, hk, hl0, hl0', hl1, hl1', hz0, hz0']))
    | refine op_nil ?_ | refine next_normal ?_ | refine go_seq ?_ | refine go_region ?_ | refine go_skip ?_ | refine go_block ?_ | refine inb_normal ?_
    | (apply go_yes; (case hc => simp [hL, h0, hk, hl0, hl0', hl1, hl1', hz0, hz0'])) | (apply go_no; (case hc => simp [hL, h0, hk, hl0, hl0', hl1, hl1', hz0, hz0']))
    | refine go_exit ?_ | refine next_exit ?_ | refine inb_here ?_ | refine inb_past (by decide) ?_ | refine go_ret ?_ | refine next_ret ?_ | refine inb_ret ?_))
      (apply ends_ok; (case h1 => simp; exact is_rfl); (case h2 => simp; exact is_rfl))
      simp [hv]
    · (repeat (first
    | (apply is_ok; (case hw => simp [hL, h0, hk1, hk2, hl0, hl0', hl1, hl1', hz0, hz0']); (case he => simp [hL, h0, hk1, hk2, hl0, hl0', hl1, hl1', hz0, hz0']; exact is_rfl))
    | (apply op_no; (case hw => simp [hL, h0, hk1, hk2, hl0, hl0', hl1, hl1', hz0, hz0']))
    | refine op_nil ?_ | refine next_normal ?_ | refine go_seq ?_ | refine go_region ?_ | refine go_skip ?_ | refine go_block ?_ | refine inb_normal ?_
    | (apply go_yes; (case hc => simp [hL, h0, hk1, hk2, hl0, hl0', hl1, hl1', hz0, hz0'])) | (apply go_no; (case hc => simp [hL, h0, hk1, hk2, hl0, hl0', hl1, hl1', hz0, hz0']))
    | refine go_exit ?_ | refine next_exit ?_ | refine inb_here ?_ | refine inb_past (by decide) ?_ | refine go_ret ?_ | refine next_ret ?_ | refine inb_ret ?_))
      (apply ends_ok; (case h1 => simp; exact is_rfl); (case h2 => simp; exact is_rfl))
      simp [hv]
  have hz0' : ¬ z < 0 := by omega
  by_cases hz1 : z ≤ 1024
  case neg =>
    have hz1' : 1024 < z := by omega
    have hv := fail (z ≤ 1024) (fun h => by unfold validI at h; rw [if_neg h0] at h; exact h.2.2.2.2.1) hz1
    rcases hk with hk | ⟨hk1, hk2⟩
    · (repeat (first
    | (apply is_ok; (case hw => simp [hL, h0, hk, hl0, hl0', hl1, hl1', hz0, hz0', hz1, hz1']); (case he => simp [hL, h0, hk, hl0, hl0', hl1, hl1', hz0, hz0', hz1, hz1']; exact is_rfl))
    | (apply op_no; (case hw => simp [hL, h0, hk, hl0, hl0', hl1, hl1', hz0, hz0', hz1, hz1']))
    | refine op_nil ?_ | refine next_normal ?_ | refine go_seq ?_ | refine go_region ?_ | refine go_skip ?_ | refine go_block ?_ | refine inb_normal ?_
    | (apply go_yes; (case hc => simp [hL, h0, hk, hl0, hl0', hl1, hl1', hz0, hz0', hz1, hz1'])) | (apply go_no; (case hc => simp [hL, h0, hk, hl0, hl0', hl1, hl1', hz0, hz0', hz1, hz1']))
    | refine go_exit ?_ | refine next_exit ?_ | refine inb_here ?_ | refine inb_past (by decide) ?_ | refine go_ret ?_ | refine next_ret ?_ | refine inb_ret ?_))
      (apply ends_ok; (case h1 => simp; exact is_rfl); (case h2 => simp; exact is_rfl))
      simp [hv]
    · (repeat (first
    | (apply is_ok; (case hw => simp [hL, h0, hk1, hk2, hl0, hl0', hl1, hl1', hz0, hz0', hz1, hz1']); (case he => simp [hL, h0, hk1, hk2, hl0, hl0', hl1, hl1', hz0, hz0', hz1, hz1']; exact is_rfl))
    | (apply op_no; (case hw => simp [hL, h0, hk1, hk2, hl0, hl0', hl1, hl1', hz0, hz0', hz1, hz1']))
    | refine op_nil ?_ | refine next_normal ?_ | refine go_seq ?_ | refine go_region ?_ | refine go_skip ?_ | refine go_block ?_ | refine inb_normal ?_
    | (apply go_yes; (case hc => simp [hL, h0, hk1, hk2, hl0, hl0', hl1, hl1', hz0, hz0', hz1, hz1'])) | (apply go_no; (case hc => simp [hL, h0, hk1, hk2, hl0, hl0', hl1, hl1', hz0, hz0', hz1, hz1']))
    | refine go_exit ?_ | refine next_exit ?_ | refine inb_here ?_ | refine inb_past (by decide) ?_ | refine go_ret ?_ | refine next_ret ?_ | refine inb_ret ?_))
      (apply ends_ok; (case h1 => simp; exact is_rfl); (case h2 => simp; exact is_rfl))
      simp [hv]
  have hz1' : ¬ 1024 < z := by omega
  have hq := quo_z hz0 hz1
  have okI : (∀ i (hi : i < L.length), 0 ≤ L[i] ∧ L[i] ≤ 65535 ∧ (L[i] ≠ 0 ↔ (i : Int) < (z + 127) / 128)) ↔ validI k l z L := by
    unfold validI
    rw [if_neg h0]
    constructor
    · intro h
      exact ⟨h1, hl0, hl1, hz0, hz1, fun i hi => by
        have hi' : i < L.length := by have := List.mem_range.1 hi; omega
        have := h i hi'
        simpa [hi'] using this⟩
    · intro h i hi
      have := h.2.2.2.2.2 i (List.mem_range.2 (by omega))
      simpa [hi] using this
  generalize (z + 127) / 128 = n at hq okI
  suffices hs : ∀ (R : Bool), R = decide (validI k l z L) → Go1 DC 143 ([] : Heap).length (codeL Tryz.f143) (argEnv [inoV k l z L] 0) [] (Ends DC Tryz.f143.results.toList ([] : Heap).length fun r' h' => r' = .bool R ∧ h' = []) from hs _ rfl
  intro R hR
  dsimp only [codeL, Tryz.f143, scL, sopsL, guardL, dstAt, loopKey]
  have htk : (ints L).take 8 = ints L := List.take_of_length_le (by simp [hL])
  rcases hk with hk | ⟨hk1, hk2⟩
  · (repeat (first
    | (apply is_ok; (case hw => simp [hL, h0, hk, hl0, hl0', hl1, hl1', hz0, hz0', hz1, hz1', hq]); (case he => simp [hL, h0, hk, hl0, hl0', hl1, hl1', hz0, hz0', hz1, hz1', hq]; exact is_rfl))
    | (apply op_no; (case hw => simp [hL, h0, hk, hl0, hl0', hl1, hl1', hz0, hz0', hz1, hz1', hq]))
    | refine op_nil ?_ | refine next_normal ?_ | refine go_seq ?_ | refine go_region ?_ | refine go_skip ?_ | refine go_block ?_ | refine inb_normal ?_
    | (apply go_yes; (case hc => simp [hL, h0, hk, hl0, hl0', hl1, hl1', hz0, hz0', hz1, hz1', hq])) | (apply go_no; (case hc => simp [hL, h0, hk, hl0, hl0', hl1, hl1', hz0, hz0', hz1, hz1', hq]))
    | refine go_exit ?_ | refine next_exit ?_ | refine inb_here ?_ | refine inb_past (by decide) ?_ | refine go_ret ?_ | refine next_ret ?_ | refine inb_ret ?_))
    refine go_count 8 (fun i => [(3, .int .i64 n), (46, .agg (ints L)), (47, .int .i64 i)]) (fun _ => []) (fun i => ∀ j (hj : j < L.length), j < i → 0 ≤ L[j] ∧ L[j] ≤ 65535 ∧ (L[j] ≠ 0 ↔ (j : Int) < n)) (by simp [hk, htk]) (by simp) fun i hi hI => ?_
    by_cases hlt : i < 8
    · have hli : i < L.length := by omega
      have hw : IntKind.i64.wrap ((i : Int) + 1) = (i : Int) + 1 := wrap_id (by omega) (by omega)
      have hs := sub_arr hli
      have hlt' : (i : Int) < 8 := by omega
      generalize hx : L[i] = x at hs
      have ha := intOp_and x
      have fin : ¬ (0 ≤ x ∧ x ≤ 65535 ∧ (x ≠ 0 ↔ (i : Int) < n)) → R = false := fun h => by rw [hR]; exact decide_eq_false fun hv => h (by have := okI.2 hv i hli; rwa [hx] at this)
      by_cases g1 : 0 ≤ x ∧ x ≤ 65535
      case neg =>
        have g1' : ¬ x % 65536 = x := by omega
        (repeat (first
    | (apply is_ok; (case hw => simp [-intOp, hL, hlt, hlt', hs, ha, g1']); (case he => simp [-intOp, hL, hlt, hlt', hs, ha, g1']; exact is_rfl))
    | (apply op_no; (case hw => simp [-intOp, hL, hlt, hlt', hs, ha, g1']))
    | refine op_nil ?_ | refine next_normal ?_ | refine go_seq ?_ | refine go_region ?_ | refine go_skip ?_ | refine go_block ?_ | refine inb_normal ?_
    | (apply go_yes; (case hc => simp [-intOp, hL, hlt, hlt', hs, ha, g1'])) | (apply go_no; (case hc => simp [-intOp, hL, hlt, hlt', hs, ha, g1']))
    | refine go_exit ?_ | refine next_exit ?_ | refine inb_here ?_ | refine inb_past (by decide) ?_ | refine go_ret ?_ | refine next_ret ?_ | refine inb_ret ?_))
        (apply ends_ok; (case h1 => simp; exact is_rfl); (case h2 => simp; exact is_rfl))
        simp [fin (fun h => g1 ⟨h.1, h.2.1⟩)]
      have g1' : x % 65536 = x := by omega
      by_cases g3 : x = 0
      · by_cases g4 : (i : Int) < n
        · (repeat (first
    | (apply is_ok; (case hw => simp [-intOp, hL, hlt, hlt', hs, ha, g1', g3, g4]); (case he => simp [-intOp, hL, hlt, hlt', hs, ha, g1', g3, g4]; exact is_rfl))
    | (apply op_no; (case hw => simp [-intOp, hL, hlt, hlt', hs, ha, g1', g3, g4]))
    | refine op_nil ?_ | refine next_normal ?_ | refine go_seq ?_ | refine go_region ?_ | refine go_skip ?_ | refine go_block ?_ | refine inb_normal ?_
    | (apply go_yes; (case hc => simp [-intOp, hL, hlt, hlt', hs, ha, g1', g3, g4])) | (apply go_no; (case hc => simp [-intOp, hL, hlt, hlt', hs, ha, g1', g3, g4]))
    | refine go_exit ?_ | refine next_exit ?_ | refine inb_here ?_ | refine inb_past (by decide) ?_ | refine go_ret ?_ | refine next_ret ?_ | refine inb_ret ?_))
          (apply ends_ok; (case h1 => simp; exact is_rfl); (case h2 => simp; exact is_rfl))
          simp [fin (fun h => (h.2.2.2 g4) g3)]
        · (repeat (first
    | (apply is_ok; (case hw => simp [-intOp, hL, hlt, hlt', hs, ha, g1', g3, g4]); (case he => simp [-intOp, hL, hlt, hlt', hs, ha, g1', g3, g4]; exact is_rfl))
    | (apply op_no; (case hw => simp [-intOp, hL, hlt, hlt', hs, ha, g1', g3, g4]))
    | refine op_nil ?_ | refine next_normal ?_ | refine go_seq ?_ | refine go_region ?_ | refine go_skip ?_ | refine go_block ?_ | refine inb_normal ?_
    | (apply go_yes; (case hc => simp [-intOp, hL, hlt, hlt', hs, ha, g1', g3, g4])) | (apply go_no; (case hc => simp [-intOp, hL, hlt, hlt', hs, ha, g1', g3, g4]))
    | refine go_exit ?_ | refine next_exit ?_ | refine inb_here ?_ | refine inb_past (by decide) ?_ | refine go_ret ?_ | refine next_ret ?_ | refine inb_ret ?_))
          exact ⟨hlt, by simp [hw, hk], fun j hj hji => by
            by_cases hje : j = i
            · subst hje; rw [hx]; exact ⟨g1.1, g1.2, fun h => absurd g3 h, fun h => absurd h g4⟩
            · exact hI j hj (by omega)⟩
      · by_cases g4 : (i : Int) < n
        · (repeat (first
    | (apply is_ok; (case hw => simp [-intOp, hL, hlt, hlt', hs, ha, g1', g3, g4]); (case he => simp [-intOp, hL, hlt, hlt', hs, ha, g1', g3, g4]; exact is_rfl))
    | (apply op_no; (case hw => simp [-intOp, hL, hlt, hlt', hs, ha, g1', g3, g4]))
    | refine op_nil ?_ | refine next_normal ?_ | refine go_seq ?_ | refine go_region ?_ | refine go_skip ?_ | refine go_block ?_ | refine inb_normal ?_
    | (apply go_yes; (case hc => simp [-intOp, hL, hlt, hlt', hs, ha, g1', g3, g4])) | (apply go_no; (case hc => simp [-intOp, hL, hlt, hlt', hs, ha, g1', g3, g4]))
    | refine go_exit ?_ | refine next_exit ?_ | refine inb_here ?_ | refine inb_past (by decide) ?_ | refine go_ret ?_ | refine next_ret ?_ | refine inb_ret ?_))
          exact ⟨hlt, by simp [hw, hk], fun j hj hji => by
            by_cases hje : j = i
            · subst hje; rw [hx]; exact ⟨g1.1, g1.2, fun _ => g4, fun _ => g3⟩
            · exact hI j hj (by omega)⟩
        · (repeat (first
    | (apply is_ok; (case hw => simp [-intOp, hL, hlt, hlt', hs, ha, g1', g3, g4]); (case he => simp [-intOp, hL, hlt, hlt', hs, ha, g1', g3, g4]; exact is_rfl))
    | (apply op_no; (case hw => simp [-intOp, hL, hlt, hlt', hs, ha, g1', g3, g4]))
    | refine op_nil ?_ | refine next_normal ?_ | refine go_seq ?_ | refine go_region ?_ | refine go_skip ?_ | refine go_block ?_ | refine inb_normal ?_
    | (apply go_yes; (case hc => simp [-intOp, hL, hlt, hlt', hs, ha, g1', g3, g4])) | (apply go_no; (case hc => simp [-intOp, hL, hlt, hlt', hs, ha, g1', g3, g4]))
    | refine go_exit ?_ | refine next_exit ?_ | refine inb_here ?_ | refine inb_past (by decide) ?_ | refine go_ret ?_ | refine next_ret ?_ | refine inb_ret ?_))
          (apply ends_ok; (case h1 => simp; exact is_rfl); (case h2 => simp; exact is_rfl))
          simp [fin (fun h => g4 (h.2.2.1 g3))]
    · have hlt' : ¬ (i : Int) < 8 := by omega
      (repeat (first
    | (apply is_ok; (case hw => simp [hlt, hlt']); (case he => simp [hlt, hlt']; exact is_rfl))
    | (apply op_no; (case hw => simp [hlt, hlt']))
    | refine op_nil ?_ | refine next_normal ?_ | refine go_seq ?_ | refine go_region ?_ | refine go_skip ?_ | refine go_block ?_ | refine inb_normal ?_
    | (apply go_yes; (case hc => simp [hlt, hlt'])) | (apply go_no; (case hc => simp [hlt, hlt']))
    | refine go_exit ?_ | refine next_exit ?_ | refine inb_here ?_ | refine inb_past (by decide) ?_ | refine go_ret ?_ | refine next_ret ?_ | refine inb_ret ?_))
      (apply ends_ok; (case h1 => simp; exact is_rfl); (case h2 => simp; exact is_rfl))
      have : R = true := by rw [hR]; exact decide_eq_true (okI.1 fun j hj => hI j hj (by omega))
      simp [this]
  · (repeat (first
    | (apply is_ok; (case hw => simp [hL, h0, hk1, hk2, hl0, hl0', hl1, hl1', hz0, hz0', hz1, hz1', hq]); (case he => simp [hL, h0, hk1, hk2, hl0, hl0', hl1, hl1', hz0, hz0', hz1, hz1', hq]; exact is_rfl))
    | (apply op_no; (case hw => simp [hL, h0, hk1, hk2, hl0, hl0', hl1, hl1', hz0, hz0', hz1, hz1', hq]))
    | refine op_nil ?_ | refine next_normal ?_ | refine go_seq ?_ | refine go_region ?_ | refine go_skip ?_ | refine go_block ?_ | refine inb_normal ?_
    | (apply go_yes; (case hc => simp [hL, h0, hk1, hk2, hl0, hl0', hl1, hl1', hz0, hz0', hz1, hz1', hq])) | (apply go_no; (case hc => simp [hL, h0, hk1, hk2, hl0, hl0', hl1, hl1', hz0, hz0', hz1, hz1', hq]))
    | refine go_exit ?_ | refine next_exit ?_ | refine inb_here ?_ | refine inb_past (by decide) ?_ | refine go_ret ?_ | refine next_ret ?_ | refine inb_ret ?_))
    refine go_count 8 (fun i => [(3, .int .i64 n), (46, .agg (ints L)), (47, .int .i64 i)]) (fun _ => []) (fun i => ∀ j (hj : j < L.length), j < i → 0 ≤ L[j] ∧ L[j] ≤ 65535 ∧ (L[j] ≠ 0 ↔ (j : Int) < n)) (by simp [hk1, hk2, htk]) (by simp) fun i hi hI => ?_
    by_cases hlt : i < 8
    · have hli : i < L.length := by omega
      have hw : IntKind.i64.wrap ((i : Int) + 1) = (i : Int) + 1 := wrap_id (by omega) (by omega)
      have hs := sub_arr hli
      have hlt' : (i : Int) < 8 := by omega
      generalize hx : L[i] = x at hs
      have ha := intOp_and x
      have fin : ¬ (0 ≤ x ∧ x ≤ 65535 ∧ (x ≠ 0 ↔ (i : Int) < n)) → R = false := fun h => by rw [hR]; exact decide_eq_false fun hv => h (by have := okI.2 hv i hli; rwa [hx] at this)
      by_cases g1 : 0 ≤ x ∧ x ≤ 65535
      case neg =>
        have g1' : ¬ x % 65536 = x := by omega
        (repeat (first
    | (apply is_ok; (case hw => simp [-intOp, hL, hlt, hlt', hs, ha, g1']); (case he => simp [-intOp, hL, hlt, hlt', hs, ha, g1']; exact is_rfl))
    | (apply op_no; (case hw => simp [-intOp, hL, hlt, hlt', hs, ha, g1']))
    | refine op_nil ?_ | refine next_normal ?_ | refine go_seq ?_ | refine go_region ?_ | refine go_skip ?_ | refine go_block ?_ | refine inb_normal ?_
    | (apply go_yes; (case hc => simp [-intOp, hL, hlt, hlt', hs, ha, g1'])) | (apply go_no; (case hc => simp [-intOp, hL, hlt, hlt', hs, ha, g1']))
    | refine go_exit ?_ | refine next_exit ?_ | refine inb_here ?_ | refine inb_past (by decide) ?_ | refine go_ret ?_ | refine next_ret ?_ | refine inb_ret ?_))
        (apply ends_ok; (case h1 => simp; exact is_rfl); (case h2 => simp; exact is_rfl))
        simp [fin (fun h => g1 ⟨h.1, h.2.1⟩)]
      have g1' : x % 65536 = x := by omega
      by_cases g3 : x = 0
      · by_cases g4 : (i : Int) < n
        · (repeat (first
    | (apply is_ok; (case hw => simp [-intOp, hL, hlt, hlt', hs, ha, g1', g3, g4]); (case he => simp [-intOp, hL, hlt, hlt', hs, ha, g1', g3, g4]; exact is_rfl))
    | (apply op_no; (case hw => simp [-intOp, hL, hlt, hlt', hs, ha, g1', g3, g4]))
    | refine op_nil ?_ | refine next_normal ?_ | refine go_seq ?_ | refine go_region ?_ | refine go_skip ?_ | refine go_block ?_ | refine inb_normal ?_
    | (apply go_yes; (case hc => simp [-intOp, hL, hlt, hlt', hs, ha, g1', g3, g4])) | (apply go_no; (case hc => simp [-intOp, hL, hlt, hlt', hs, ha, g1', g3, g4]))
    | refine go_exit ?_ | refine next_exit ?_ | refine inb_here ?_ | refine inb_past (by decide) ?_ | refine go_ret ?_ | refine next_ret ?_ | refine inb_ret ?_))
          (apply ends_ok; (case h1 => simp; exact is_rfl); (case h2 => simp; exact is_rfl))
          simp [fin (fun h => (h.2.2.2 g4) g3)]
        · (repeat (first
    | (apply is_ok; (case hw => simp [-intOp, hL, hlt, hlt', hs, ha, g1', g3, g4]); (case he => simp [-intOp, hL, hlt, hlt', hs, ha, g1', g3, g4]; exact is_rfl))
    | (apply op_no; (case hw => simp [-intOp, hL, hlt, hlt', hs, ha, g1', g3, g4]))
    | refine op_nil ?_ | refine next_normal ?_ | refine go_seq ?_ | refine go_region ?_ | refine go_skip ?_ | refine go_block ?_ | refine inb_normal ?_
    | (apply go_yes; (case hc => simp [-intOp, hL, hlt, hlt', hs, ha, g1', g3, g4])) | (apply go_no; (case hc => simp [-intOp, hL, hlt, hlt', hs, ha, g1', g3, g4]))
    | refine go_exit ?_ | refine next_exit ?_ | refine inb_here ?_ | refine inb_past (by decide) ?_ | refine go_ret ?_ | refine next_ret ?_ | refine inb_ret ?_))
          exact ⟨hlt, by simp [hw, hk1, hk2], fun j hj hji => by
            by_cases hje : j = i
            · subst hje; rw [hx]; exact ⟨g1.1, g1.2, fun h => absurd g3 h, fun h => absurd h g4⟩
            · exact hI j hj (by omega)⟩
      · by_cases g4 : (i : Int) < n
        · (repeat (first
    | (apply is_ok; (case hw => simp [-intOp, hL, hlt, hlt', hs, ha, g1', g3, g4]); (case he => simp [-intOp, hL, hlt, hlt', hs, ha, g1', g3, g4]; exact is_rfl))
    | (apply op_no; (case hw => simp [-intOp, hL, hlt, hlt', hs, ha, g1', g3, g4]))
    | refine op_nil ?_ | refine next_normal ?_ | refine go_seq ?_ | refine go_region ?_ | refine go_skip ?_ | refine go_block ?_ | refine inb_normal ?_
    | (apply go_yes; (case hc => simp [-intOp, hL, hlt, hlt', hs, ha, g1', g3, g4])) | (apply go_no; (case hc => simp [-intOp, hL, hlt, hlt', hs, ha, g1', g3, g4]))
    | refine go_exit ?_ | refine next_exit ?_ | refine inb_here ?_ | refine inb_past (by decide) ?_ | refine go_ret ?_ | refine next_ret ?_ | refine inb_ret ?_))
          exact ⟨hlt, by simp [hw, hk1, hk2], fun j hj hji => by
            by_cases hje : j = i
            · subst hje; rw [hx]; exact ⟨g1.1, g1.2, fun _ => g4, fun _ => g3⟩
            · exact hI j hj (by omega)⟩
        · (repeat (first
    | (apply is_ok; (case hw => simp [-intOp, hL, hlt, hlt', hs, ha, g1', g3, g4]); (case he => simp [-intOp, hL, hlt, hlt', hs, ha, g1', g3, g4]; exact is_rfl))
    | (apply op_no; (case hw => simp [-intOp, hL, hlt, hlt', hs, ha, g1', g3, g4]))
    | refine op_nil ?_ | refine next_normal ?_ | refine go_seq ?_ | refine go_region ?_ | refine go_skip ?_ | refine go_block ?_ | refine inb_normal ?_
    | (apply go_yes; (case hc => simp [-intOp, hL, hlt, hlt', hs, ha, g1', g3, g4])) | (apply go_no; (case hc => simp [-intOp, hL, hlt, hlt', hs, ha, g1', g3, g4]))
    | refine go_exit ?_ | refine next_exit ?_ | refine inb_here ?_ | refine inb_past (by decide) ?_ | refine go_ret ?_ | refine next_ret ?_ | refine inb_ret ?_))
          (apply ends_ok; (case h1 => simp; exact is_rfl); (case h2 => simp; exact is_rfl))
          simp [fin (fun h => g4 (h.2.2.1 g3))]
    · have hlt' : ¬ (i : Int) < 8 := by omega
      (repeat (first
    | (apply is_ok; (case hw => simp [hlt, hlt']); (case he => simp [hlt, hlt']; exact is_rfl))
    | (apply op_no; (case hw => simp [hlt, hlt']))
    | refine op_nil ?_ | refine next_normal ?_ | refine go_seq ?_ | refine go_region ?_ | refine go_skip ?_ | refine go_block ?_ | refine inb_normal ?_
    | (apply go_yes; (case hc => simp [hlt, hlt'])) | (apply go_no; (case hc => simp [hlt, hlt']))
    | refine go_exit ?_ | refine next_exit ?_ | refine inb_here ?_ | refine inb_past (by decide) ?_ | refine go_ret ?_ | refine next_ret ?_ | refine inb_ret ?_))
      (apply ends_ok; (case h1 => simp; exact is_rfl); (case h2 => simp; exact is_rfl))
      have : R = true := by rw [hR]; exact decide_eq_true (okI.1 fun j hj => hI j hj (by omega))
      simp [this]
end Go.Abs

namespace Go.Abs
open Go.Proofs
set_option maxRecDepth 100000
set_option linter.unusedSimpArgs false
set_option linter.unusedVariables false

/-- Two bytes as a whole number. -/
def word (x y : UInt8) : Int := (x.toNat : Int) + 256 * y.toNat
@[simp] theorem wrap_byte (b : UInt8) : IntKind.i64.wrap (b.toNat : Int) = b.toNat := wrap_id (by omega) (by have := b.toNat_lt; omega)
@[simp] theorem wrap_byte256 (b : UInt8) : IntKind.i64.wrap ((b.toNat : Int) * 256) = b.toNat * 256 := wrap_id (by omega) (by have := b.toNat_lt; omega)
theorem or_nat (x y : Nat) (hx : x < 256) : x ||| y * 256 = x + 256 * y := by
  have := Nat.two_pow_add_eq_or_of_lt (i := 8) (b := x) (by omega) y
  rw [show (2 : Nat) ^ 8 = 256 from rfl] at this
  rw [Nat.or_comm, Nat.mul_comm y 256]
  omega
theorem or_bytes (x y : UInt8) : intOp .or .i64 (x.toNat : Int) ((y.toNat : Int) * 256) = some (.int .i64 (word x y)) := by
  have hx := x.toNat_lt
  have hy := y.toNat_lt
  show some (V.int .i64 (IntKind.i64.wrap ((BitVec.ofInt 64 (x.toNat : Int) ||| BitVec.ofInt 64 ((y.toNat : Int) * 256)).toNat : Int))) = _
  rw [BitVec.toNat_or, BitVec.toNat_ofInt, BitVec.toNat_ofInt]
  have e1 : ((x.toNat : Int) % (2 ^ 64 : Nat)).toNat = x.toNat := by omega
  have e2 : (((y.toNat : Int) * 256) % (2 ^ 64 : Nat)).toNat = y.toNat * 256 := by omega
  rw [e1, e2, or_nat _ _ hx, wrap_id (by omega) (by omega)]
  unfold word
  congr 2

theorem GetR_eq (s : List UInt8) (i : Nat) (h : i + 2 ≤ s.length) (hs : s.length ≤ 1000000) :
    bodyW DC 137 [.str s, .int .i64 i, .int .i64 2] [] = some (.tuple [.int .i64 (word (s[i]'(by omega)) (s[i + 1]'(by omega))), .int .i64 ((i : Int) + 2), .int .i64 0], []) := by
  have h0 : i < s.length := by omega
  have h1 : i + 1 < s.length := by omega
  generalize hx : s[i]'h0 = x
  generalize hy : s[i + 1]'h1 = y
  have g0 : s[i]? = some x := by rw [List.getElem?_eq_getElem h0, hx]
  have g1 : s[i + 1]? = some y := by rw [List.getElem?_eq_getElem h1, hy]
  have bx := x.toNat_lt
  have by_ := y.toNat_lt
  have a1 : IntKind.i64.wrap ((i : Int) + 2) = i + 2 := wrap_id (by omega) (by omega)
  have a2 : IntKind.i64.wrap ((i : Int) + 2 - 1) = i + 1 := by rw [wrap_id (by omega) (by omega)]; omega
  have a10 : IntKind.i64.wrap ((i : Int) + 1 - 1) = i := by rw [wrap_id (by omega) (by omega)]; omega
  have a3 : IntKind.i64.wrap ((i : Int) + 1) = i + 1 := wrap_id (by omega) (by omega)
  have a4 : IntKind.i64.wrap (i : Int) = i := wrap_id (by omega) (by omega)
  have a5 : IntKind.i64.wrap ((i : Int) - 1) = i - 1 := wrap_id (by omega) (by omega)
  have a6 : IntKind.i64.wrap ((s.length : Int) - i) = s.length - i := wrap_id (by omega) (by omega)
  have a7 : ¬ ((s.length : Int) - i < 2) := by omega
  have a8 : ¬ ((s.length : Int) < i) := by omega
  have a8' : ¬ (s.length < i) := by omega
  have a9 : ((i : Int) + 1).toNat = i + 1 := by omega
  have c1 : (0 : Int) ≤ (i : Int) + 1 := by omega
  have c2 : (i : Int) ≤ (i : Int) + 1 := by omega
  have c3 : ¬ ((i : Int) ≤ (i : Int) - 1) := by omega
  have d1 : IntKind.i64.wrap (256 * (y.toNat : Int)) = 256 * y.toNat := wrap_id (by omega) (by omega)
  have d2 : IntKind.i64.wrap (256 * (y.toNat : Int) + x.toNat) = word x y := by unfold word; rw [wrap_id (by omega) (by omega)]; omega
  have d3 : ¬ ((i : Int) < 0) := by omega
  (refine gives_iff ?_; refine go_func Tryz.f137 rfl rfl (by simp [Tryz.f137]) ?_; dsimp only [codeL, Tryz.f137, scL, sopsL, guardL, dstAt, loopKey])
  (repeat (first
    | (apply is_ok; (case hw => simp [a1, a2, a10, a3, a4, a5, a6, a7, a8, a8', a9, c1, c2, c3, d1, d2, d3, g0, g1, h0, h1, hx, hy]); (case he => simp [a1, a2, a10, a3, a4, a5, a6, a7, a8, a8', a9, c1, c2, c3, d1, d2, d3, g0, g1, h0, h1, hx, hy]; exact is_rfl))
    | (apply op_no; (case hw => simp [a1, a2, a10, a3, a4, a5, a6, a7, a8, a8', a9, c1, c2, c3, d1, d2, d3, g0, g1, h0, h1, hx, hy]))
    | refine op_nil ?_ | refine next_normal ?_ | refine go_seq ?_ | refine go_region ?_ | refine go_skip ?_ | refine go_block ?_ | refine inb_normal ?_
    | (apply go_yes; (case hc => simp [a1, a2, a10, a3, a4, a5, a6, a7, a8, a8', a9, c1, c2, c3, d1, d2, d3, g0, g1, h0, h1, hx, hy])) | (apply go_no; (case hc => simp [a1, a2, a10, a3, a4, a5, a6, a7, a8, a8', a9, c1, c2, c3, d1, d2, d3, g0, g1, h0, h1, hx, hy]))
    | refine go_exit ?_ | refine next_exit ?_ | refine inb_here ?_ | refine inb_past (by decide) ?_ | refine go_ret ?_ | refine next_ret ?_ | refine inb_ret ?_
    | (apply go_unroll; (case hh => simp [a1, a2, a10, a3, a4, a5, a6, a7, a8, a8', a9, c1, c2, c3, d1, d2, d3, g0, g1, h0, h1, hx, hy]; exact is_rfl))))
  (apply ends_ok; (case h1 => simp; exact is_rfl); (case h2 => simp; exact is_rfl))
  simp [d2]
theorem Get_eq (s : List UInt8) (i : Nat) (h : i + 2 ≤ s.length) (hs : s.length ≤ 1000000) :
    bodyW DC 166 [.str s, .int .i64 i, .int .i64 2] [] = some (.tuple [.int .i64 (word (s[i]'(by omega)) (s[i + 1]'(by omega))), .int .i64 ((i : Int) + 2), .int .i64 0], []) := by
  have h0 : i < s.length := by omega
  have h1 : i + 1 < s.length := by omega
  generalize hx : s[i]'h0 = x
  generalize hy : s[i + 1]'h1 = y
  have g0 : s[i]? = some x := by rw [List.getElem?_eq_getElem h0, hx]
  have g1 : s[i + 1]? = some y := by rw [List.getElem?_eq_getElem h1, hy]
  have bx := x.toNat_lt
  have by_ := y.toNat_lt
  have a1 : IntKind.i64.wrap ((i : Int) + 2) = i + 2 := wrap_id (by omega) (by omega)
  have a3 : IntKind.i64.wrap ((i : Int) + 1) = i + 1 := wrap_id (by omega) (by omega)
  have a4 : IntKind.i64.wrap (i : Int) = i := wrap_id (by omega) (by omega)
  have a6 : IntKind.i64.wrap ((s.length : Int) - i) = s.length - i := wrap_id (by omega) (by omega)
  have a7 : ¬ ((s.length : Int) - i < 2) := by omega
  have a8 : ¬ ((s.length : Int) < i) := by omega
  have a8' : ¬ (s.length < i) := by omega
  have a9 : ((i : Int) + 1).toNat = i + 1 := by omega
  have c1 : (0 : Int) ≤ (i : Int) + 1 := by omega
  have d1 : IntKind.i64.wrap ((y.toNat : Int) * 256) = y.toNat * 256 := wrap_byte256 y
  have d2 : intOp .or .i64 0 (y.toNat : Int) = some (.int .i64 y.toNat) := by
    show some (V.int .i64 (IntKind.i64.wrap ((BitVec.ofInt 64 0 ||| BitVec.ofInt 64 (y.toNat : Int)).toNat : Int))) = _
    rw [show BitVec.ofInt 64 0 = 0#64 from rfl, BitVec.zero_or, BitVec.toNat_ofInt]
    have e1 : ((y.toNat : Int) % (2 ^ 64 : Nat)).toNat = y.toNat := by omega
    rw [e1, wrap_byte]
  have d4 : intOp .or .i64 ((y.toNat : Int) * 256) (x.toNat : Int) = some (.int .i64 (word x y)) := by
    rw [← or_bytes x y]
    show some (V.int .i64 (IntKind.i64.wrap ((BitVec.ofInt 64 ((y.toNat : Int) * 256) ||| BitVec.ofInt 64 (x.toNat : Int)).toNat : Int))) = some (V.int .i64 (IntKind.i64.wrap ((BitVec.ofInt 64 (x.toNat : Int) ||| BitVec.ofInt 64 ((y.toNat : Int) * 256)).toNat : Int)))
    rw [BitVec.or_comm]
  have d3 : ¬ ((i : Int) < 0) := by omega
  (refine gives_iff ?_; refine go_func Tryz.f166 rfl rfl (by simp [Tryz.f166]) ?_; dsimp only [codeL, Tryz.f166, scL, sopsL, guardL, dstAt, loopKey])
  (repeat (first
    | (apply is_ok; (case hw => simp [-intOp, a1, a3, a4, a6, a7, a8, a8', a9, c1, d1, d2, d3, d4, g0, g1, h0, h1, hx, hy]); (case he => simp [-intOp, a1, a3, a4, a6, a7, a8, a8', a9, c1, d1, d2, d3, d4, g0, g1, h0, h1, hx, hy]; exact is_rfl))
    | (apply op_no; (case hw => simp [-intOp, a1, a3, a4, a6, a7, a8, a8', a9, c1, d1, d2, d3, d4, g0, g1, h0, h1, hx, hy]))
    | refine op_nil ?_ | refine next_normal ?_ | refine go_seq ?_ | refine go_region ?_ | refine go_skip ?_ | refine go_block ?_ | refine inb_normal ?_
    | (apply go_yes; (case hc => simp [-intOp, a1, a3, a4, a6, a7, a8, a8', a9, c1, d1, d2, d3, d4, g0, g1, h0, h1, hx, hy])) | (apply go_no; (case hc => simp [-intOp, a1, a3, a4, a6, a7, a8, a8', a9, c1, d1, d2, d3, d4, g0, g1, h0, h1, hx, hy]))
    | refine go_exit ?_ | refine next_exit ?_ | refine inb_here ?_ | refine inb_past (by decide) ?_ | refine go_ret ?_ | refine next_ret ?_ | refine inb_ret ?_
    | (apply go_unroll; (case hh => simp [-intOp, a1, a3, a4, a6, a7, a8, a8', a9, c1, d1, d2, d3, d4, g0, g1, h0, h1, hx, hy]; exact is_rfl))))
  (apply ends_ok; (case h1 => simp; exact is_rfl); (case h2 => simp; exact is_rfl))
  simp

end Go.Abs

namespace Go.Abs
open Go.Proofs
set_option maxRecDepth 100000
set_option linter.unusedSimpArgs false
set_option linter.unusedVariables false
attribute [local simp] spanV arrAtV

set_option maxHeartbeats 4000000 in
theorem GetWords_eq (b0 b1 b2 b3 b4 b5 b6 b7 b8 b9 b10 b11 b12 b13 b14 b15 b16 b17 b18 b19 b20 b21 b22 b23 b24 b25 b26 b27 b28 b29 b30 b31 : UInt8) : bodyW DC 164 [.str [b0, b1, b2, b3, b4, b5, b6, b7, b8, b9, b10, b11, b12, b13, b14, b15, b16, b17, b18, b19, b20, b21, b22, b23, b24, b25, b26, b27, b28, b29, b30, b31]] [] =
    some (.tuple [.own 0 16 0 16, .int .i64 0], [.dat true 1 (ints [word b0 b1, word b2 b3, word b4 b5, word b6 b7, word b8 b9, word b10 b11, word b12 b13, word b14 b15, word b16 b17, word b18 b19, word b20 b21, word b22 b23, word b24 b25, word b26 b27, word b28 b29, word b30 b31])]) := by
  have q : IntKind.i64.wrap ((32 : Int).tdiv 2) = 16 := rfl
  have r : (32 : Int).tmod 2 = 0 := rfl
  (refine gives_iff ?_; refine go_func Tryz.f164 rfl rfl (by simp [Tryz.f164]) ?_; dsimp only [codeL, Tryz.f164, scL, sopsL, guardL, dstAt, loopKey])
  (repeat (first
    | (apply is_ok; (case hw => simp [-intOp, or_bytes, room, q, r]); (case he => simp [-intOp, or_bytes, room, q, r]; exact is_rfl))
    | (apply op_no; (case hw => simp [-intOp, or_bytes, room, q, r]))
    | refine op_nil ?_ | refine next_normal ?_ | refine go_seq ?_ | refine go_region ?_ | refine go_skip ?_ | refine go_block ?_ | refine inb_normal ?_
    | (apply go_yes; (case hc => simp [-intOp, or_bytes, room, q, r])) | (apply go_no; (case hc => simp [-intOp, or_bytes, room, q, r]))
    | refine go_exit ?_ | refine next_exit ?_ | refine inb_here ?_ | refine inb_past (by decide) ?_ | refine go_ret ?_ | refine next_ret ?_ | refine inb_ret ?_
    | (apply go_unroll; (case hh => simp [-intOp, or_bytes, room, q, r]; exact is_rfl))))
  (apply ends_ok; (case h1 => simp; exact is_rfl); (case h2 => simp; exact is_rfl))
  simp

end Go.Abs

namespace Go.Abs
open Go.Proofs
set_option maxRecDepth 100000
set_option linter.unusedSimpArgs false
set_option linter.unusedVariables false
attribute [local simp] spanV arrAtV

theorem field_eq (s : List UInt8) (i : Nat) (h : 2 * i + 2 ≤ s.length) (hs : s.length ≤ 1000000) :
    bodyW DC 161 [.str s, .int .i64 i] [] = some (.int .i64 (word (s[2 * i]'(by omega)) (s[2 * i + 1]'(by omega))), []) := by
  have hG : bodyW DC 137 [.str s, .int .i64 (2 * (i : Int)), .int .i64 2] [] = _ := GetR_eq s (2 * i) h hs
  have w : IntKind.i64.wrap (2 * (i : Int)) = 2 * i := wrap_id (by omega) (by omega)
  (refine gives_iff ?_; refine go_func Tryz.f161 rfl rfl (by simp [Tryz.f161]) ?_; dsimp only [codeL, Tryz.f161, scL, sopsL, guardL, dstAt, loopKey])
  (repeat (first
    | (apply is_ok; (case hw => simp [hG, w]); (case he => simp [hG, w]; exact is_rfl))
    | (apply op_no; (case hw => simp [hG, w]))
    | refine op_nil ?_ | refine next_normal ?_ | refine go_seq ?_ | refine go_region ?_ | refine go_skip ?_ | refine go_block ?_ | refine inb_normal ?_
    | (apply go_yes; (case hc => simp [hG, w])) | (apply go_no; (case hc => simp [hG, w]))
    | refine go_exit ?_ | refine next_exit ?_ | refine inb_here ?_ | refine inb_past (by decide) ?_ | refine go_ret ?_ | refine next_ret ?_ | refine inb_ret ?_))
  (apply ends_ok; (case h1 => simp; exact is_rfl); (case h2 => simp; exact is_rfl))
  simp

theorem word_range (x y : UInt8) : 0 ≤ word x y ∧ word x y ≤ 65535 := by
  have := x.toNat_lt; have := y.toNat_lt
  unfold word; omega

def wd (s : List UInt8) (i : Nat) : Int := word (s.getD (2 * i) 0) (s.getD (2 * i + 1) 0)
def wdL (s : List UInt8) : List Int := [wd s 3, wd s 4, wd s 5, wd s 6, wd s 7, wd s 8, wd s 9, wd s 10]
abbrev ino0 : V := .agg [.int .i64 0, .int .i64 0, .int .i64 0, .int .i64 0, .int .i64 0, .int .i64 0, .int .i64 0, .int .i64 0, .int .i64 0, .int .i64 0, .int .i64 0]
def okS (s : List UInt8) : Prop := s.length = 32 ∧ validI (wd s 0) (wd s 1) (wd s 2) (wdL s) ∧ bytesI (wd s 0) (wd s 1) (wd s 2) (wdL s) = s
instance (s : List UInt8) : Decidable (okS s) := by unfold okS; infer_instance
/-- What an encoding says. -/
def parseV (s : List UInt8) : V := if okS s then inoV (wd s 0) (wd s 1) (wd s 2) (wdL s) else ino0
def parseE (s : List UInt8) : Int := if okS s then 0 else 9

theorem in64_wd (s : List UInt8) : In64 (wd s 0 :: wd s 1 :: wd s 2 :: wdL s) := by
  intro x hx
  have : ∃ a b, x = word a b := by
    simp only [wdL, List.mem_cons, List.not_mem_nil, or_false] at hx
    rcases hx with rfl | rfl | rfl | rfl | rfl | rfl | rfl | rfl | rfl | rfl | rfl <;> exact ⟨_, _, rfl⟩
  obtain ⟨a, b, rfl⟩ := this
  have := word_range a b
  omega

set_option maxHeartbeats 4000000 in
theorem ParseR_eq (s : List UInt8) : bodyW DC 117 [.str s] [] = some (.tuple [parseV s, .int .i64 (parseE s)], []) := by
  by_cases hs : s.length = 32
  case neg =>
    have hs' : ¬ ((s.length : Int) = 32) := by omega
    have hk : ¬ okS s := fun h => hs h.1
    unfold parseV parseE
    rw [if_neg hk, if_neg hk]
    (refine gives_iff ?_; refine go_func Tryz.f117 rfl rfl (by simp [Tryz.f117]) ?_; dsimp only [codeL, Tryz.f117, scL, sopsL, guardL, dstAt, loopKey])
    (repeat (first
    | (apply is_ok; (case hw => simp [hs, hs']); (case he => simp [hs, hs']; exact is_rfl))
    | (apply op_no; (case hw => simp [hs, hs']))
    | refine op_nil ?_ | refine next_normal ?_ | refine go_seq ?_ | refine go_region ?_ | refine go_skip ?_ | refine go_block ?_ | refine inb_normal ?_
    | (apply go_yes; (case hc => simp [hs, hs'])) | (apply go_no; (case hc => simp [hs, hs']))
    | refine go_exit ?_ | refine next_exit ?_ | refine inb_here ?_ | refine inb_past (by decide) ?_ | refine go_ret ?_ | refine next_ret ?_ | refine inb_ret ?_))
    (apply ends_ok; (case h1 => simp; exact is_rfl); (case h2 => simp; exact is_rfl))
    simp
  have hs' : ((s.length : Int) = 32) := by omega
  obtain ⟨q, hq, hV⟩ : ∃ q : Bool, (q = true ↔ validI (wd s 0) (wd s 1) (wd s 2) (wdL s)) ∧ bodyW DC 110 [inoV (wd s 0) (wd s 1) (wd s 2) (wdL s)] [] = some (.bool q, []) := ⟨_, decide_eq_true_iff, ValidR_eq (wd s 0) (wd s 1) (wd s 2) (wdL s) rfl (fun x hx => in64_wd s x (by simp [hx]))⟩
  have hB := BytesR_eq (wd s 0) (wd s 1) (wd s 2) (wdL s) rfl (in64_wd s)
  have f0 : bodyW DC 161 [.str s, .int .i64 0] [] = some (.int .i64 (wd s 0), []) := by
    have h := field_eq s 0 (by omega) (by omega)
    have e : wd s 0 = word (s[2 * 0]'(by omega)) (s[2 * 0 + 1]'(by omega)) := by simp [wd, hs]
    rw [e]; exact h
  have f1 : bodyW DC 161 [.str s, .int .i64 1] [] = some (.int .i64 (wd s 1), []) := by
    have h := field_eq s 1 (by omega) (by omega)
    have e : wd s 1 = word (s[2 * 1]'(by omega)) (s[2 * 1 + 1]'(by omega)) := by simp [wd, hs]
    rw [e]; exact h
  have f2 : bodyW DC 161 [.str s, .int .i64 2] [] = some (.int .i64 (wd s 2), []) := by
    have h := field_eq s 2 (by omega) (by omega)
    have e : wd s 2 = word (s[2 * 2]'(by omega)) (s[2 * 2 + 1]'(by omega)) := by simp [wd, hs]
    rw [e]; exact h
  have f3 : bodyW DC 161 [.str s, .int .i64 3] [] = some (.int .i64 (wd s 3), []) := by
    have h := field_eq s 3 (by omega) (by omega)
    have e : wd s 3 = word (s[2 * 3]'(by omega)) (s[2 * 3 + 1]'(by omega)) := by simp [wd, hs]
    rw [e]; exact h
  have f4 : bodyW DC 161 [.str s, .int .i64 4] [] = some (.int .i64 (wd s 4), []) := by
    have h := field_eq s 4 (by omega) (by omega)
    have e : wd s 4 = word (s[2 * 4]'(by omega)) (s[2 * 4 + 1]'(by omega)) := by simp [wd, hs]
    rw [e]; exact h
  have f5 : bodyW DC 161 [.str s, .int .i64 5] [] = some (.int .i64 (wd s 5), []) := by
    have h := field_eq s 5 (by omega) (by omega)
    have e : wd s 5 = word (s[2 * 5]'(by omega)) (s[2 * 5 + 1]'(by omega)) := by simp [wd, hs]
    rw [e]; exact h
  have f6 : bodyW DC 161 [.str s, .int .i64 6] [] = some (.int .i64 (wd s 6), []) := by
    have h := field_eq s 6 (by omega) (by omega)
    have e : wd s 6 = word (s[2 * 6]'(by omega)) (s[2 * 6 + 1]'(by omega)) := by simp [wd, hs]
    rw [e]; exact h
  have f7 : bodyW DC 161 [.str s, .int .i64 7] [] = some (.int .i64 (wd s 7), []) := by
    have h := field_eq s 7 (by omega) (by omega)
    have e : wd s 7 = word (s[2 * 7]'(by omega)) (s[2 * 7 + 1]'(by omega)) := by simp [wd, hs]
    rw [e]; exact h
  have f8 : bodyW DC 161 [.str s, .int .i64 8] [] = some (.int .i64 (wd s 8), []) := by
    have h := field_eq s 8 (by omega) (by omega)
    have e : wd s 8 = word (s[2 * 8]'(by omega)) (s[2 * 8 + 1]'(by omega)) := by simp [wd, hs]
    rw [e]; exact h
  have f9 : bodyW DC 161 [.str s, .int .i64 9] [] = some (.int .i64 (wd s 9), []) := by
    have h := field_eq s 9 (by omega) (by omega)
    have e : wd s 9 = word (s[2 * 9]'(by omega)) (s[2 * 9 + 1]'(by omega)) := by simp [wd, hs]
    rw [e]; exact h
  have f10 : bodyW DC 161 [.str s, .int .i64 10] [] = some (.int .i64 (wd s 10), []) := by
    have h := field_eq s 10 (by omega) (by omega)
    have e : wd s 10 = word (s[2 * 10]'(by omega)) (s[2 * 10 + 1]'(by omega)) := by simp [wd, hs]
    rw [e]; exact h
  have hk : okS s ↔ (validI (wd s 0) (wd s 1) (wd s 2) (wdL s) ∧ bytesI (wd s 0) (wd s 1) (wd s 2) (wdL s) = s) := ⟨fun h => h.2, fun h => ⟨hs, h⟩⟩
  unfold parseV parseE
  simp only [inoV, ints, wdL, List.map_cons, List.map_nil] at hq hV hB hk ⊢
  generalize wd s 0 = w0 at *
  generalize wd s 1 = w1 at *
  generalize wd s 2 = w2 at *
  generalize wd s 3 = w3 at *
  generalize wd s 4 = w4 at *
  generalize wd s 5 = w5 at *
  generalize wd s 6 = w6 at *
  generalize wd s 7 = w7 at *
  generalize wd s 8 = w8 at *
  generalize wd s 9 = w9 at *
  generalize wd s 10 = w10 at *
  by_cases hv : validI w0 w1 w2 [w3, w4, w5, w6, w7, w8, w9, w10]
  case neg =>
    have ho : ¬ okS s := fun h => hv (hk.1 h).1
    rw [if_neg ho, if_neg ho]
    have hq0 : q = false := by cases q with | false => rfl | true => exact absurd (hq.1 rfl) hv
    subst hq0
    (refine gives_iff ?_; refine go_func Tryz.f117 rfl rfl (by simp [Tryz.f117]) ?_; dsimp only [codeL, Tryz.f117, scL, sopsL, guardL, dstAt, loopKey])
    (repeat (first
    | (apply is_ok; (case hw => simp [f0, f1, f2, f3, f4, f5, f6, f7, f8, f9, f10, hs, hs', hV, hB]); (case he => simp [f0, f1, f2, f3, f4, f5, f6, f7, f8, f9, f10, hs, hs', hV, hB]; exact is_rfl))
    | (apply op_no; (case hw => simp [f0, f1, f2, f3, f4, f5, f6, f7, f8, f9, f10, hs, hs', hV, hB]))
    | refine op_nil ?_ | refine next_normal ?_ | refine go_seq ?_ | refine go_region ?_ | refine go_skip ?_ | refine go_block ?_ | refine inb_normal ?_
    | (apply go_yes; (case hc => simp [f0, f1, f2, f3, f4, f5, f6, f7, f8, f9, f10, hs, hs', hV, hB])) | (apply go_no; (case hc => simp [f0, f1, f2, f3, f4, f5, f6, f7, f8, f9, f10, hs, hs', hV, hB]))
    | refine go_exit ?_ | refine next_exit ?_ | refine inb_here ?_ | refine inb_past (by decide) ?_ | refine go_ret ?_ | refine next_ret ?_ | refine inb_ret ?_
    | (apply go_unroll; (case hh => simp [f0, f1, f2, f3, f4, f5, f6, f7, f8, f9, f10, hs, hs', hV, hB]; exact is_rfl))))
    (apply ends_ok; (case h1 => simp; exact is_rfl); (case h2 => simp; exact is_rfl))
    simp
  have hq1 : q = true := hq.2 hv
  subst hq1
  by_cases hb : bytesI w0 w1 w2 [w3, w4, w5, w6, w7, w8, w9, w10] = s
  case neg =>
    have ho : ¬ okS s := fun h => hb (hk.1 h).2
    rw [if_neg ho, if_neg ho]
    (refine gives_iff ?_; refine go_func Tryz.f117 rfl rfl (by simp [Tryz.f117]) ?_; dsimp only [codeL, Tryz.f117, scL, sopsL, guardL, dstAt, loopKey])
    (repeat (first
    | (apply is_ok; (case hw => simp [f0, f1, f2, f3, f4, f5, f6, f7, f8, f9, f10, hs, hs', hV, hB, hb]); (case he => simp [f0, f1, f2, f3, f4, f5, f6, f7, f8, f9, f10, hs, hs', hV, hB, hb]; exact is_rfl))
    | (apply op_no; (case hw => simp [f0, f1, f2, f3, f4, f5, f6, f7, f8, f9, f10, hs, hs', hV, hB, hb]))
    | refine op_nil ?_ | refine next_normal ?_ | refine go_seq ?_ | refine go_region ?_ | refine go_skip ?_ | refine go_block ?_ | refine inb_normal ?_
    | (apply go_yes; (case hc => simp [f0, f1, f2, f3, f4, f5, f6, f7, f8, f9, f10, hs, hs', hV, hB, hb])) | (apply go_no; (case hc => simp [f0, f1, f2, f3, f4, f5, f6, f7, f8, f9, f10, hs, hs', hV, hB, hb]))
    | refine go_exit ?_ | refine next_exit ?_ | refine inb_here ?_ | refine inb_past (by decide) ?_ | refine go_ret ?_ | refine next_ret ?_ | refine inb_ret ?_
    | (apply go_unroll; (case hh => simp [f0, f1, f2, f3, f4, f5, f6, f7, f8, f9, f10, hs, hs', hV, hB, hb]; exact is_rfl))))
    (apply ends_ok; (case h1 => simp; exact is_rfl); (case h2 => simp; exact is_rfl))
    simp
  have ho : okS s := hk.2 ⟨hv, hb⟩
  rw [if_pos ho, if_pos ho]
  (refine gives_iff ?_; refine go_func Tryz.f117 rfl rfl (by simp [Tryz.f117]) ?_; dsimp only [codeL, Tryz.f117, scL, sopsL, guardL, dstAt, loopKey])
  (repeat (first
    | (apply is_ok; (case hw => simp [f0, f1, f2, f3, f4, f5, f6, f7, f8, f9, f10, hs, hs', hV, hB, hb]); (case he => simp [f0, f1, f2, f3, f4, f5, f6, f7, f8, f9, f10, hs, hs', hV, hB, hb]; exact is_rfl))
    | (apply op_no; (case hw => simp [f0, f1, f2, f3, f4, f5, f6, f7, f8, f9, f10, hs, hs', hV, hB, hb]))
    | refine op_nil ?_ | refine next_normal ?_ | refine go_seq ?_ | refine go_region ?_ | refine go_skip ?_ | refine go_block ?_ | refine inb_normal ?_
    | (apply go_yes; (case hc => simp [f0, f1, f2, f3, f4, f5, f6, f7, f8, f9, f10, hs, hs', hV, hB, hb])) | (apply go_no; (case hc => simp [f0, f1, f2, f3, f4, f5, f6, f7, f8, f9, f10, hs, hs', hV, hB, hb]))
    | refine go_exit ?_ | refine next_exit ?_ | refine inb_here ?_ | refine inb_past (by decide) ?_ | refine go_ret ?_ | refine next_ret ?_ | refine inb_ret ?_
    | (apply go_unroll; (case hh => simp [f0, f1, f2, f3, f4, f5, f6, f7, f8, f9, f10, hs, hs', hV, hB, hb]; exact is_rfl))))
  (apply ends_ok; (case h1 => simp; exact is_rfl); (case h2 => simp; exact is_rfl))
  simp

set_option maxHeartbeats 4000000 in
theorem Parse_eq (s : List UInt8) : bodyW DC 122 [.str s] [] = some (.tuple [parseV s, .int .i64 (parseE s)], []) := by
  by_cases hs : s.length = 32
  case neg =>
    have hs' : ¬ ((s.length : Int) = 32) := by omega
    have hk : ¬ okS s := fun h => hs h.1
    unfold parseV parseE
    rw [if_neg hk, if_neg hk]
    (refine gives_iff ?_; refine go_func Tryz.f122 rfl rfl (by simp [Tryz.f122]) ?_; dsimp only [codeL, Tryz.f122, scL, sopsL, guardL, dstAt, loopKey])
    (repeat (first
    | (apply is_ok; (case hw => simp [hs, hs']); (case he => simp [hs, hs']; exact is_rfl))
    | (apply op_no; (case hw => simp [hs, hs']))
    | refine op_nil ?_ | refine next_normal ?_ | refine go_seq ?_ | refine go_region ?_ | refine go_skip ?_ | refine go_block ?_ | refine inb_normal ?_
    | (apply go_yes; (case hc => simp [hs, hs'])) | (apply go_no; (case hc => simp [hs, hs']))
    | refine go_exit ?_ | refine next_exit ?_ | refine inb_here ?_ | refine inb_past (by decide) ?_ | refine go_ret ?_ | refine next_ret ?_ | refine inb_ret ?_))
    (apply ends_ok; (case h1 => simp; exact is_rfl); (case h2 => simp; exact is_rfl))
    simp
  have hs' : ((s.length : Int) = 32) := by omega
  obtain ⟨q, hq, hV⟩ : ∃ q : Bool, (q = true ↔ validI (wd s 0) (wd s 1) (wd s 2) (wdL s)) ∧ bodyW DC 143 [inoV (wd s 0) (wd s 1) (wd s 2) (wdL s)] [] = some (.bool q, []) := ⟨_, decide_eq_true_iff, Valid_eq (wd s 0) (wd s 1) (wd s 2) (wdL s) rfl (fun x hx => in64_wd s x (by simp [hx]))⟩
  have hB := Bytes_eq (wd s 0) (wd s 1) (wd s 2) (wdL s) rfl (in64_wd s)
  have hG : ∃ r, bodyW DC 164 [.str s] [] = some (.tuple [.own 0 16 0 16, .int .i64 0], [.dat true 1 (ints (wd s 0 :: wd s 1 :: wd s 2 :: (wdL s ++ r)))]) ∧ r.length = 5 := by
    match s, hs with
    | [b0, b1, b2, b3, b4, b5, b6, b7, b8, b9, b10, b11, b12, b13, b14, b15, b16, b17, b18, b19, b20, b21, b22, b23, b24, b25, b26, b27, b28, b29, b30, b31], _ => exact ⟨[word b22 b23, word b24 b25, word b26 b27, word b28 b29, word b30 b31], GetWords_eq b0 b1 b2 b3 b4 b5 b6 b7 b8 b9 b10 b11 b12 b13 b14 b15 b16 b17 b18 b19 b20 b21 b22 b23 b24 b25 b26 b27 b28 b29 b30 b31, rfl⟩
  obtain ⟨r, hG, hr⟩ := hG
  obtain ⟨r0, r1, r2, r3, r4, rfl⟩ : ∃ a b c d e, r = [a, b, c, d, e] := by
    match r, hr with
    | [a, b, c, d, e], _ => exact ⟨a, b, c, d, e, rfl⟩
  have hk : okS s ↔ (validI (wd s 0) (wd s 1) (wd s 2) (wdL s) ∧ bytesI (wd s 0) (wd s 1) (wd s 2) (wdL s) = s) := ⟨fun h => h.2, fun h => ⟨hs, h⟩⟩
  unfold parseV parseE
  simp only [inoV, ints, wdL, List.cons_append, List.nil_append, List.map_cons, List.map_nil] at hq hV hB hk hG ⊢
  generalize wd s 0 = w0 at *
  generalize wd s 1 = w1 at *
  generalize wd s 2 = w2 at *
  generalize wd s 3 = w3 at *
  generalize wd s 4 = w4 at *
  generalize wd s 5 = w5 at *
  generalize wd s 6 = w6 at *
  generalize wd s 7 = w7 at *
  generalize wd s 8 = w8 at *
  generalize wd s 9 = w9 at *
  generalize wd s 10 = w10 at *
  by_cases hv : validI w0 w1 w2 [w3, w4, w5, w6, w7, w8, w9, w10]
  case neg =>
    have ho : ¬ okS s := fun h => hv (hk.1 h).1
    rw [if_neg ho, if_neg ho]
    have hq0 : q = false := by cases q with | false => rfl | true => exact absurd (hq.1 rfl) hv
    subst hq0
    (refine gives_iff ?_; refine go_func Tryz.f122 rfl rfl (by simp [Tryz.f122]) ?_; dsimp only [codeL, Tryz.f122, scL, sopsL, guardL, dstAt, loopKey])
    (repeat (first
    | (apply is_ok; (case hw => simp [hG, hs, hs', hV, hB]); (case he => simp [hG, hs, hs', hV, hB]; exact is_rfl))
    | (apply op_no; (case hw => simp [hG, hs, hs', hV, hB]))
    | refine op_nil ?_ | refine next_normal ?_ | refine go_seq ?_ | refine go_region ?_ | refine go_skip ?_ | refine go_block ?_ | refine inb_normal ?_
    | (apply go_yes; (case hc => simp [hG, hs, hs', hV, hB])) | (apply go_no; (case hc => simp [hG, hs, hs', hV, hB]))
    | refine go_exit ?_ | refine next_exit ?_ | refine inb_here ?_ | refine inb_past (by decide) ?_ | refine go_ret ?_ | refine next_ret ?_ | refine inb_ret ?_
    | (apply go_unroll; (case hh => simp [hG, hs, hs', hV, hB]; exact is_rfl))))
    (apply ends_ok; (case h1 => simp; exact is_rfl); (case h2 => simp; exact is_rfl))
    simp
  have hq1 : q = true := hq.2 hv
  subst hq1
  by_cases hb : bytesI w0 w1 w2 [w3, w4, w5, w6, w7, w8, w9, w10] = s
  case neg =>
    have ho : ¬ okS s := fun h => hb (hk.1 h).2
    rw [if_neg ho, if_neg ho]
    (refine gives_iff ?_; refine go_func Tryz.f122 rfl rfl (by simp [Tryz.f122]) ?_; dsimp only [codeL, Tryz.f122, scL, sopsL, guardL, dstAt, loopKey])
    (repeat (first
    | (apply is_ok; (case hw => simp [hG, hs, hs', hV, hB, hb]); (case he => simp [hG, hs, hs', hV, hB, hb]; exact is_rfl))
    | (apply op_no; (case hw => simp [hG, hs, hs', hV, hB, hb]))
    | refine op_nil ?_ | refine next_normal ?_ | refine go_seq ?_ | refine go_region ?_ | refine go_skip ?_ | refine go_block ?_ | refine inb_normal ?_
    | (apply go_yes; (case hc => simp [hG, hs, hs', hV, hB, hb])) | (apply go_no; (case hc => simp [hG, hs, hs', hV, hB, hb]))
    | refine go_exit ?_ | refine next_exit ?_ | refine inb_here ?_ | refine inb_past (by decide) ?_ | refine go_ret ?_ | refine next_ret ?_ | refine inb_ret ?_
    | (apply go_unroll; (case hh => simp [hG, hs, hs', hV, hB, hb]; exact is_rfl))))
    (apply ends_ok; (case h1 => simp; exact is_rfl); (case h2 => simp; exact is_rfl))
    simp
  have ho : okS s := hk.2 ⟨hv, hb⟩
  rw [if_pos ho, if_pos ho]
  (refine gives_iff ?_; refine go_func Tryz.f122 rfl rfl (by simp [Tryz.f122]) ?_; dsimp only [codeL, Tryz.f122, scL, sopsL, guardL, dstAt, loopKey])
  (repeat (first
    | (apply is_ok; (case hw => simp [hG, hs, hs', hV, hB, hb]); (case he => simp [hG, hs, hs', hV, hB, hb]; exact is_rfl))
    | (apply op_no; (case hw => simp [hG, hs, hs', hV, hB, hb]))
    | refine op_nil ?_ | refine next_normal ?_ | refine go_seq ?_ | refine go_region ?_ | refine go_skip ?_ | refine go_block ?_ | refine inb_normal ?_
    | (apply go_yes; (case hc => simp [hG, hs, hs', hV, hB, hb])) | (apply go_no; (case hc => simp [hG, hs, hs', hV, hB, hb]))
    | refine go_exit ?_ | refine next_exit ?_ | refine inb_here ?_ | refine inb_past (by decide) ?_ | refine go_ret ?_ | refine next_ret ?_ | refine inb_ret ?_
    | (apply go_unroll; (case hh => simp [hG, hs, hs', hV, hB, hb]; exact is_rfl))))
  (apply ends_ok; (case h1 => simp; exact is_rfl); (case h2 => simp; exact is_rfl))
  simp
end Go.Abs

namespace Go.Abs
open Go.Proofs
set_option maxRecDepth 1000000
set_option linter.unusedSimpArgs false
set_option linter.unusedVariables false

end Go.Abs

namespace Go.Abs
open Go.Proofs
set_option maxRecDepth 100000
set_option linter.unusedSimpArgs false

end Go.Abs

namespace Go.Abs
open Go.Proofs
set_option maxRecDepth 100000
set_option linter.unusedSimpArgs false

/-- A drive's value. -/
abbrev drv (S : List (List UInt8)) (B : List Int) : V := .agg [.sl (strs S), .sl (ints B)]

def FairP (S : List (List UInt8)) (B : List Int) : Prop := S.length ≤ 64 ∧ B.length ≤ 80 ∧ ∀ s ∈ S, s.length ≤ 200
instance (S : List (List UInt8)) (B : List Int) : Decidable (FairP S B) := by unfold FairP; infer_instance

def RightP (S : List (List UInt8)) (B : List Int) : Prop := 1 ≤ S.length ∧ S.length ≤ 256 ∧ (∀ s ∈ S, s.length = 128) ∧ (∀ b ∈ B, 0 ≤ b ∧ b < S.length) ∧ ∀ i ∈ List.range B.length, 1 ≤ i → B.getD (i - 1) 0 < B.getD i 0
instance (S : List (List UInt8)) (B : List Int) : Decidable (RightP S B) := by unfold RightP; infer_instance

end Go.Abs

