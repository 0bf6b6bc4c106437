/- Proved here: what functions of the program compute, over the evaluator. No condition but those that each theorem states. -/
import Derived.Test.YtpffmpllnpmkbaaDoorTF
import Derived.Test.YtpffmpllnpmkbaaDoorA6
namespace Go.Abs
open Go.Proofs
set_option maxRecDepth 100000
set_option linter.unusedSimpArgs false

theorem refsL_none {l : List V} (h : ∀ x ∈ l, refs x = []) : refsL l = [] := by
  induction l with
  | nil => rfl
  | cons x l ih => rw [refsL_cons, h x (List.mem_cons_self ..), ih fun y hy => h y (List.mem_cons_of_mem _ hy)]; rfl
theorem renL_same {ρ : Nat → Option Nat} {l : List V} (h : ∀ x ∈ l, ren ρ x = x) : renL ρ l = l := by
  induction l with
  | nil => rfl
  | cons x l ih => rw [renL_cons, h x (List.mem_cons_self ..), ih fun y hy => h y (List.mem_cons_of_mem _ hy)]
@[simp] theorem refsL_ints (k : IntKind) (L : List Int) : refsL (L.map (V.int k)) = [] := refsL_none fun x hx => by obtain ⟨a, _, rfl⟩ := List.mem_map.1 hx; rfl
@[simp] theorem refsL_strs (L : List (List UInt8)) : refsL (L.map V.str) = [] := refsL_none fun x hx => by obtain ⟨a, _, rfl⟩ := List.mem_map.1 hx; rfl
@[simp] theorem refsL_ints_take (n : Nat) (k : IntKind) (L : List Int) : refsL ((L.map (V.int k)).take n) = [] := refsL_none fun x hx => by obtain ⟨a, _, rfl⟩ := List.mem_map.1 (List.mem_of_mem_take hx); rfl
@[simp] theorem renL_ints (ρ : Nat → Option Nat) (k : IntKind) (L : List Int) : renL ρ (L.map (V.int k)) = L.map (V.int k) := renL_same fun x hx => by obtain ⟨a, _, rfl⟩ := List.mem_map.1 hx; rfl
@[simp] theorem renL_strs (ρ : Nat → Option Nat) (L : List (List UInt8)) : renL ρ (L.map V.str) = L.map V.str := renL_same fun x hx => by obtain ⟨a, _, rfl⟩ := List.mem_map.1 hx; rfl

/-- A whole number as two bytes. -/
def put2 (n : Int) : List UInt8 := [UInt8.ofNat (n.toNat % 256), UInt8.ofNat (n.toNat / 256 % 256)]
theorem wrap_u8_nat (x : Nat) : IntKind.u8.wrap (x : Int) = ((x % 256 : Nat) : Int) := by simp [IntKind.wrap, IntKind.bits, IntKind.signed]
theorem fdiv_nat (a b : Nat) : (a : Int).fdiv (b : Int) = ((a / b : Nat) : Int) := by rw [Int.fdiv_eq_ediv_of_nonneg _ (by omega)]; rfl

@[simp] theorem ofVal_int (k : IntKind) (n : Int) : ofVal (.int k n) = .int k n := rfl
@[simp] theorem ofVal_bool (b : Bool) : ofVal (.bool b) = .bool b := rfl
@[simp] theorem ofVal_str (s : ByteArray) : ofVal (.string s) = .str s.data.toList := rfl

@[simp] theorem wrap_lit {x : Int} (h : -9223372036854775808 ≤ x) (h' : x ≤ 9223372036854775807) : IntKind.i64.wrap x = x := wrap_id h h'
@[simp] theorem bits_i64 : IntKind.i64.bits = 64 := rfl
@[simp] theorem bits_u8 : IntKind.u8.bits = 8 := rfl
@[simp] theorem bits_u64 : IntKind.u64.bits = 64 := rfl

theorem Put_eq (n : Int) (hn : n ≤ 9223372036854775807) : bodyW DC 29 [.int .i64 n, .int .i64 2] [] = some (.str (put2 n), []) := by
  have e0 : max 0 (min 2 8) = (2 : Int) := by decide
  have hm : max n 0 = (n.toNat : Int) := by omega
  unfold put2
  generalize n.toNat = m at hm
  have f1 : (m : Int).fdiv 1 = ((m / 1 : Nat) : Int) := fdiv_nat m 1
  have f2 : (m : Int).fdiv 256 = ((m / 256 : Nat) : Int) := fdiv_nat m 256
  have w1 := wrap_u8_nat m
  have w2 := wrap_u8_nat (m / 256)
  (refine gives_iff ?_; refine go_func Tryd.f29 rfl rfl (by simp [Tryd.f29]) ?_; dsimp only [codeL, Tryd.f29, scL, sopsL, guardL, dstAt, loopKey])
  (repeat (first
    | (apply is_ok; (case hw => simp [hm, e0, f1, f2, w1, w2]); (case he => simp [hm, e0, f1, f2, w1, w2]; exact is_rfl))
    | (apply op_no; (case hw => simp [hm, e0, f1, f2, w1, w2]))
    | refine op_nil ?_ | refine next_normal ?_ | refine go_seq ?_ | refine go_region ?_ | refine go_skip ?_ | refine go_block ?_ | refine inb_normal ?_
    | (apply go_yes; (case hc => simp [hm, e0, f1, f2, w1, w2])) | (apply go_no; (case hc => simp [hm, e0, f1, f2, w1, w2]))
    | refine go_exit ?_ | refine next_exit ?_ | refine inb_here ?_ | refine inb_past (by decide) ?_ | refine go_ret ?_ | refine next_ret ?_ | refine inb_ret ?_
    | (apply go_unroll; (case hh => simp [hm, e0, f1, f2, w1, w2]; exact is_rfl))))
  (apply ends_ok; (case h1 => simp; exact is_rfl); (case h2 => simp; exact is_rfl))
  have w3 : (IntKind.u8.wrap ((m : Int) / 256)).toNat = m / 256 % 256 := by rw [show (m : Int) / 256 = ((m / 256 : Nat) : Int) from rfl, w2]; exact Int.toNat_natCast _
  have w4 : ((m : Int) % 256).toNat = m % 256 := by omega
  simp [w3, w4]

theorem PutR_eq (n : Int) (hn : n ≤ 9223372036854775807) : bodyW DC 47 [.int .i64 n, .int .i64 2] [] = some (.str (put2 n), []) := by
  unfold put2
  by_cases h0 : n < 0
  · have hz : n.toNat = 0 := by omega
    (refine gives_iff ?_; refine go_func Tryd.f47 rfl rfl (by simp [Tryd.f47]) ?_; dsimp only [codeL, Tryd.f47, scL, sopsL, guardL, dstAt, loopKey])
    (repeat (first
    | (apply is_ok; (case hw => simp [h0, room]); (case he => simp [h0, room]; exact is_rfl))
    | (apply op_no; (case hw => simp [h0, room]))
    | refine op_nil ?_ | refine next_normal ?_ | refine go_seq ?_ | refine go_region ?_ | refine go_skip ?_ | refine go_block ?_ | refine inb_normal ?_
    | (apply go_yes; (case hc => simp [h0, room])) | (apply go_no; (case hc => simp [h0, room]))
    | refine go_exit ?_ | refine next_exit ?_ | refine inb_here ?_ | refine inb_past (by decide) ?_ | refine go_ret ?_ | refine next_ret ?_ | refine inb_ret ?_
    | (apply go_unroll; (case hh => simp [h0, room]; exact is_rfl))))
    (apply ends_ok; (case h1 => simp; exact is_rfl); (case h2 => simp; exact is_rfl))
    simp [hz, show IntKind.u8.wrap 0 = 0 from rfl]
  · obtain ⟨m, rfl⟩ : ∃ m : Nat, n = m := ⟨n.toNat, by omega⟩
    have f1 : (m : Int).tmod 256 = ((m % 256 : Nat) : Int) := by rw [Int.tmod_eq_emod_of_nonneg (by omega)]; rfl
    have f2 : (m : Int).tdiv 256 = ((m / 256 : Nat) : Int) := by rw [Int.tdiv_eq_ediv_of_nonneg (by omega)]; rfl
    have f3 : ((m / 256 : Nat) : Int).tmod 256 = ((m / 256 % 256 : Nat) : Int) := by rw [Int.tmod_eq_emod_of_nonneg (by omega)]; rfl
    have f4 : ((m / 256 : Nat) : Int).tdiv 256 = ((m / 256 / 256 : Nat) : Int) := by rw [Int.tdiv_eq_ediv_of_nonneg (by omega)]; rfl
    have w1 : IntKind.u8.wrap ((m % 256 : Nat) : Int) = ((m % 256 : Nat) : Int) := by rw [wrap_u8_nat]; omega
    have w2 : IntKind.u8.wrap ((m / 256 % 256 : Nat) : Int) = ((m / 256 % 256 : Nat) : Int) := by rw [wrap_u8_nat]; omega
    have w3 : IntKind.i64.wrap ((m / 256 : Nat) : Int) = ((m / 256 : Nat) : Int) := wrap_id (by omega) (by omega)
    have w4 : IntKind.i64.wrap ((m / 256 / 256 : Nat) : Int) = ((m / 256 / 256 : Nat) : Int) := wrap_id (by omega) (by omega)
    (refine gives_iff ?_; refine go_func Tryd.f47 rfl rfl (by simp [Tryd.f47]) ?_; dsimp only [codeL, Tryd.f47, scL, sopsL, guardL, dstAt, loopKey])
    generalize ha : m % 256 = a at *
    generalize hb : m / 256 = b at *
    generalize hc : b % 256 = c at *
    generalize b / 256 = d at *
    (repeat (first
    | (apply is_ok; (case hw => simp [h0, room, f1, f2, f3, f4, w1, w2, w3, w4]); (case he => simp [h0, room, f1, f2, f3, f4, w1, w2, w3, w4]; exact is_rfl))
    | (apply op_no; (case hw => simp [h0, room, f1, f2, f3, f4, w1, w2, w3, w4]))
    | refine op_nil ?_ | refine next_normal ?_ | refine go_seq ?_ | refine go_region ?_ | refine go_skip ?_ | refine go_block ?_ | refine inb_normal ?_
    | (apply go_yes; (case hc => simp [h0, room, f1, f2, f3, f4, w1, w2, w3, w4])) | (apply go_no; (case hc => simp [h0, room, f1, f2, f3, f4, w1, w2, w3, w4]))
    | refine go_exit ?_ | refine next_exit ?_ | refine inb_here ?_ | refine inb_past (by decide) ?_ | refine go_ret ?_ | refine next_ret ?_ | refine inb_ret ?_
    | (apply go_unroll; (case hh => simp [h0, room, f1, f2, f3, f4, w1, w2, w3, w4]; exact is_rfl))))
    (apply ends_ok; (case h1 => simp; exact is_rfl); (case h2 => simp; exact is_rfl))
    simp [ha, hb, hc]

end Go.Abs

namespace Go.Abs
open Go.Proofs
set_option maxRecDepth 100000
set_option linter.unusedSimpArgs false
set_option linter.unusedVariables false

abbrev inoV (k l z : Int) (L : List Int) : V := .agg (.int .i64 k :: .int .i64 l :: .int .i64 z :: ints L)
@[simp] theorem put2_length (n : Int) : (put2 n).length = 2 := rfl
def bytesI (k l z : Int) (L : List Int) : List UInt8 := put2 k ++ (put2 l ++ (put2 z ++ (L.flatMap put2 ++ List.replicate 10 0)))
/-- Numbers of 64 bits. -/
def In64 (L : List Int) : Prop := ∀ x ∈ L, -9223372036854775808 ≤ x ∧ x ≤ 9223372036854775807

end Go.Abs

namespace Go.Abs
open Go.Proofs
set_option maxRecDepth 100000
set_option linter.unusedSimpArgs false
set_option linter.unusedVariables false

def validI (k l z : Int) (L : List Int) : Prop := if k = 0 then l = 0 ∧ z = 0 ∧ L = List.replicate 8 0
  else (k = 1 ∨ k = 2) ∧ 0 ≤ l ∧ l ≤ 32 ∧ 0 ≤ z ∧ z ≤ 1024 ∧ ∀ i ∈ List.range 8, 0 ≤ L.getD i 0 ∧ L.getD i 0 ≤ 65535 ∧ (L.getD i 0 ≠ 0 ↔ (i : Int) < (z + 127) / 128)
instance (k l z : Int) (L : List Int) : Decidable (validI k l z L) := by unfold validI; infer_instance

theorem sub_ino {k l z : Int} {L : List Int} {i : Nat} (h : i < L.length) : sub Tryd.prog 3 (.agg (.int .i64 k :: .int .i64 l :: .int .i64 z :: ints L)) (3 + i) = some (.int .i64 (L[i]'h)) := by
  unfold sub
  have e : ((V.int .i64 k :: .int .i64 l :: .int .i64 z :: ints L).drop (3 + i)).take 1 = [.int .i64 (L[i]'h)] := by
    rw [show 3 + i = i + 1 + 1 + 1 by omega]
    simp only [List.drop_succ_cons]
    rw [List.drop_eq_getElem_cons (by simpa using h)]
    simp
  simp only [inf3, Option.map_some, tsz3, cells_agg, e]
  rw [if_neg (by omega), if_pos (by simp; omega)]
  simp [mk]
theorem sub_arr {L : List Int} {i : Nat} (h : i < L.length) : sub Tryd.prog 3 (.agg (ints L)) i = some (.int .i64 (L[i]'h)) := by
  unfold sub
  have e : ((ints L).drop i).take 1 = [.int .i64 (L[i]'h)] := by
    rw [List.drop_eq_getElem_cons (by simpa using h)]
    simp
  simp only [inf3, Option.map_some, tsz3, cells_agg, e]
  rw [if_neg (by simp), if_pos (by simp; omega)]
  simp [mk]

theorem quo_z {z : Int} (h0 : 0 ≤ z) (h1 : z ≤ 1024) : IntKind.i64.wrap ((IntKind.i64.wrap (IntKind.i64.wrap (z + 128) - 1)).tdiv 128) = (z + 127) / 128 := by
  rw [wrap_id (x := z + 128) (by omega) (by omega), wrap_id (x := z + 128 - 1) (by omega) (by omega), Int.tdiv_eq_ediv_of_nonneg (by omega), wrap_id (by omega) (by omega)]
  congr 1
  omega

end Go.Abs

namespace Go.Abs
open Go.Proofs
set_option maxRecDepth 100000
set_option linter.unusedSimpArgs false
set_option linter.unusedVariables false

theorem and_ffff (x : Int) : IntKind.i64.wrap ((BitVec.ofInt 64 x &&& 65535#64).toNat : Int) = x % 65536 := by
  have h : (BitVec.ofInt 64 x &&& 65535#64).toNat = (x % 18446744073709551616).toNat % 65536 := by
    rw [BitVec.toNat_and, BitVec.toNat_ofInt]
    exact Nat.and_two_pow_sub_one_eq_mod _ 16
  rw [h, wrap_id (by omega) (by omega)]
  omega

theorem intOp_and (x : Int) : intOp .and .i64 x 65535 = some (.int .i64 (x % 65536)) := by
  show some (V.int .i64 (IntKind.i64.wrap ((BitVec.ofInt 64 x &&& BitVec.ofInt 64 65535).toNat : Int))) = _
  rw [show BitVec.ofInt 64 65535 = 65535#64 from rfl, and_ffff x]
@[simp] theorem intOp_add (k : IntKind) (a b : Int) : intOp .add k a b = some (.int k (k.wrap (a + b))) := rfl
@[simp] theorem intOp_sub (k : IntKind) (a b : Int) : intOp .sub k a b = some (.int k (k.wrap (a - b))) := rfl
@[simp] theorem intOp_mul (k : IntKind) (a b : Int) : intOp .mul k a b = some (.int k (k.wrap (a * b))) := rfl
@[simp] theorem intOp_eql (k : IntKind) (a b : Int) : intOp .eql k a b = some (.bool (a == b)) := rfl
@[simp] theorem intOp_neq (k : IntKind) (a b : Int) : intOp .neq k a b = some (.bool (a != b)) := rfl
@[simp] theorem intOp_lss (k : IntKind) (a b : Int) : intOp .lss k a b = some (.bool (decide (a < b))) := rfl
@[simp] theorem intOp_leq (k : IntKind) (a b : Int) : intOp .leq k a b = some (.bool (decide (a ≤ b))) := rfl
@[simp] theorem intOp_gtr (k : IntKind) (a b : Int) : intOp .gtr k a b = some (.bool (decide (a > b))) := rfl
@[simp] theorem intOp_geq (k : IntKind) (a b : Int) : intOp .geq k a b = some (.bool (decide (a ≥ b))) := rfl

end Go.Abs

namespace Go.Abs
open Go.Proofs
set_option maxRecDepth 100000
set_option linter.unusedSimpArgs false
set_option linter.unusedVariables false
attribute [local simp] spanV arrAtV

/-- Two bytes as a whole number. -/
def word (x y : UInt8) : Int := (x.toNat : Int) + 256 * y.toNat
@[simp] theorem wrap_byte (b : UInt8) : IntKind.i64.wrap (b.toNat : Int) = b.toNat := wrap_id (by omega) (by have := b.toNat_lt; omega)
@[simp] theorem wrap_byte256 (b : UInt8) : IntKind.i64.wrap ((b.toNat : Int) * 256) = b.toNat * 256 := wrap_id (by omega) (by have := b.toNat_lt; omega)
theorem or_nat (x y : Nat) (hx : x < 256) : x ||| y * 256 = x + 256 * y := by
  have := Nat.two_pow_add_eq_or_of_lt (i := 8) (b := x) (by omega) y
  rw [show (2 : Nat) ^ 8 = 256 from rfl] at this
  rw [Nat.or_comm, Nat.mul_comm y 256]
  omega
theorem or_bytes (x y : UInt8) : intOp .or .i64 (x.toNat : Int) ((y.toNat : Int) * 256) = some (.int .i64 (word x y)) := by
  have hx := x.toNat_lt
  have hy := y.toNat_lt
  show some (V.int .i64 (IntKind.i64.wrap ((BitVec.ofInt 64 (x.toNat : Int) ||| BitVec.ofInt 64 ((y.toNat : Int) * 256)).toNat : Int))) = _
  rw [BitVec.toNat_or, BitVec.toNat_ofInt, BitVec.toNat_ofInt]
  have e1 : ((x.toNat : Int) % (2 ^ 64 : Nat)).toNat = x.toNat := by omega
  have e2 : (((y.toNat : Int) * 256) % (2 ^ 64 : Nat)).toNat = y.toNat * 256 := by omega
  rw [e1, e2, or_nat _ _ hx, wrap_id (by omega) (by omega)]
  unfold word
  congr 2

theorem GetR_eq (s : List UInt8) (i : Nat) (h : i + 2 ≤ s.length) (hs : s.length ≤ 1000000) :
    bodyW DC 45 [.str s, .int .i64 i, .int .i64 2] [] = some (.tuple [.int .i64 (word (s[i]'(by omega)) (s[i + 1]'(by omega))), .int .i64 ((i : Int) + 2), .int .i64 0], []) := by
  have h0 : i < s.length := by omega
  have h1 : i + 1 < s.length := by omega
  generalize hx : s[i]'h0 = x
  generalize hy : s[i + 1]'h1 = y
  have g0 : s[i]? = some x := by rw [List.getElem?_eq_getElem h0, hx]
  have g1 : s[i + 1]? = some y := by rw [List.getElem?_eq_getElem h1, hy]
  have bx := x.toNat_lt
  have by_ := y.toNat_lt
  have a1 : IntKind.i64.wrap ((i : Int) + 2) = i + 2 := wrap_id (by omega) (by omega)
  have a2 : IntKind.i64.wrap ((i : Int) + 2 - 1) = i + 1 := by rw [wrap_id (by omega) (by omega)]; omega
  have a10 : IntKind.i64.wrap ((i : Int) + 1 - 1) = i := by rw [wrap_id (by omega) (by omega)]; omega
  have a3 : IntKind.i64.wrap ((i : Int) + 1) = i + 1 := wrap_id (by omega) (by omega)
  have a4 : IntKind.i64.wrap (i : Int) = i := wrap_id (by omega) (by omega)
  have a5 : IntKind.i64.wrap ((i : Int) - 1) = i - 1 := wrap_id (by omega) (by omega)
  have a6 : IntKind.i64.wrap ((s.length : Int) - i) = s.length - i := wrap_id (by omega) (by omega)
  have a7 : ¬ ((s.length : Int) - i < 2) := by omega
  have a8 : ¬ ((s.length : Int) < i) := by omega
  have a8' : ¬ (s.length < i) := by omega
  have a9 : ((i : Int) + 1).toNat = i + 1 := by omega
  have c1 : (0 : Int) ≤ (i : Int) + 1 := by omega
  have c2 : (i : Int) ≤ (i : Int) + 1 := by omega
  have c3 : ¬ ((i : Int) ≤ (i : Int) - 1) := by omega
  have d1 : IntKind.i64.wrap (256 * (y.toNat : Int)) = 256 * y.toNat := wrap_id (by omega) (by omega)
  have d2 : IntKind.i64.wrap (256 * (y.toNat : Int) + x.toNat) = word x y := by unfold word; rw [wrap_id (by omega) (by omega)]; omega
  have d3 : ¬ ((i : Int) < 0) := by omega
  (refine gives_iff ?_; refine go_func Tryd.f45 rfl rfl (by simp [Tryd.f45]) ?_; dsimp only [codeL, Tryd.f45, scL, sopsL, guardL, dstAt, loopKey])
  (repeat (first
    | (apply is_ok; (case hw => simp [a1, a2, a10, a3, a4, a5, a6, a7, a8, a8', a9, c1, c2, c3, d1, d2, d3, g0, g1, h0, h1, hx, hy]); (case he => simp [a1, a2, a10, a3, a4, a5, a6, a7, a8, a8', a9, c1, c2, c3, d1, d2, d3, g0, g1, h0, h1, hx, hy]; exact is_rfl))
    | (apply op_no; (case hw => simp [a1, a2, a10, a3, a4, a5, a6, a7, a8, a8', a9, c1, c2, c3, d1, d2, d3, g0, g1, h0, h1, hx, hy]))
    | refine op_nil ?_ | refine next_normal ?_ | refine go_seq ?_ | refine go_region ?_ | refine go_skip ?_ | refine go_block ?_ | refine inb_normal ?_
    | (apply go_yes; (case hc => simp [a1, a2, a10, a3, a4, a5, a6, a7, a8, a8', a9, c1, c2, c3, d1, d2, d3, g0, g1, h0, h1, hx, hy])) | (apply go_no; (case hc => simp [a1, a2, a10, a3, a4, a5, a6, a7, a8, a8', a9, c1, c2, c3, d1, d2, d3, g0, g1, h0, h1, hx, hy]))
    | refine go_exit ?_ | refine next_exit ?_ | refine inb_here ?_ | refine inb_past (by decide) ?_ | refine go_ret ?_ | refine next_ret ?_ | refine inb_ret ?_
    | (apply go_unroll; (case hh => simp [a1, a2, a10, a3, a4, a5, a6, a7, a8, a8', a9, c1, c2, c3, d1, d2, d3, g0, g1, h0, h1, hx, hy]; exact is_rfl))))
  (apply ends_ok; (case h1 => simp; exact is_rfl); (case h2 => simp; exact is_rfl))
  simp [d2]
end Go.Abs

namespace Go.Abs
open Go.Proofs
set_option maxRecDepth 100000
set_option linter.unusedSimpArgs false
set_option linter.unusedVariables false
attribute [local simp] spanV arrAtV

theorem word_range (x y : UInt8) : 0 ≤ word x y ∧ word x y ≤ 65535 := by
  have := x.toNat_lt; have := y.toNat_lt
  unfold word; omega

def wd (s : List UInt8) (i : Nat) : Int := word (s.getD (2 * i) 0) (s.getD (2 * i + 1) 0)
def wdL (s : List UInt8) : List Int := [wd s 3, wd s 4, wd s 5, wd s 6, wd s 7, wd s 8, wd s 9, wd s 10]
abbrev ino0 : V := .agg [.int .i64 0, .int .i64 0, .int .i64 0, .int .i64 0, .int .i64 0, .int .i64 0, .int .i64 0, .int .i64 0, .int .i64 0, .int .i64 0, .int .i64 0]
def okS (s : List UInt8) : Prop := s.length = 32 ∧ validI (wd s 0) (wd s 1) (wd s 2) (wdL s) ∧ bytesI (wd s 0) (wd s 1) (wd s 2) (wdL s) = s
instance (s : List UInt8) : Decidable (okS s) := by unfold okS; infer_instance
/-- What an encoding says. -/
def parseV (s : List UInt8) : V := if okS s then inoV (wd s 0) (wd s 1) (wd s 2) (wdL s) else ino0
def parseE (s : List UInt8) : Int := if okS s then 0 else 9

theorem in64_wd (s : List UInt8) : In64 (wd s 0 :: wd s 1 :: wd s 2 :: wdL s) := by
  intro x hx
  have : ∃ a b, x = word a b := by
    simp only [wdL, List.mem_cons, List.not_mem_nil, or_false] at hx
    rcases hx with rfl | rfl | rfl | rfl | rfl | rfl | rfl | rfl | rfl | rfl | rfl <;> exact ⟨_, _, rfl⟩
  obtain ⟨a, b, rfl⟩ := this
  have := word_range a b
  omega

end Go.Abs

namespace Go.Abs
open Go.Proofs
set_option maxRecDepth 1000000
set_option linter.unusedSimpArgs false
set_option linter.unusedVariables false

end Go.Abs

namespace Go.Abs
open Go.Proofs
set_option maxRecDepth 100000
set_option linter.unusedSimpArgs false

theorem zeros_eq (n : Nat) (hn : n ≤ 1000000) : bodyW DC 49 [.int .i64 n] [] = some (.str (List.replicate n 0), []) := by
  (refine gives_iff ?_; refine go_func Tryd.f49 rfl rfl (by simp [Tryd.f49]) ?_; dsimp only [codeL, Tryd.f49, scL, sopsL, guardL, dstAt, loopKey])
  (repeat (first
    | (apply is_ok; (case hw => simp); (case he => simp; exact is_rfl))
    | (apply op_no; (case hw => simp))
    | refine op_nil ?_ | refine next_normal ?_ | refine go_seq ?_ | refine go_region ?_ | refine go_skip ?_ | refine go_block ?_ | refine inb_normal ?_
    | (apply go_yes; (case hc => simp)) | (apply go_no; (case hc => simp))
    | refine go_exit ?_ | refine next_exit ?_ | refine inb_here ?_ | refine inb_past (by decide) ?_ | refine go_ret ?_ | refine next_ret ?_ | refine inb_ret ?_))
  refine go_count n (fun i => [(0, .int .i64 n), (3, .own 0 i 0 i), (4, .int .i64 i)]) (fun i => [.dat true 1 (List.replicate i (.int .u8 0))]) (fun _ => True) (by simp) trivial fun i hi _ => ?_
  have hr : i + 1 ≤ room := by unfold room; omega
  have hw : IntKind.i64.wrap ((i : Int) + 1) = (i : Int) + 1 := wrap_id (by omega) (by omega)
  by_cases hlt : i < n
  · (repeat (first
    | (apply is_ok; (case hw => simp [hlt, hr]); (case he => simp [hlt, hr]; exact is_rfl))
    | (apply op_no; (case hw => simp [hlt, hr]))
    | refine op_nil ?_ | refine next_normal ?_ | refine go_seq ?_ | refine go_region ?_ | refine go_skip ?_ | refine go_block ?_ | refine inb_normal ?_
    | (apply go_yes; (case hc => simp [hlt, hr])) | (apply go_no; (case hc => simp [hlt, hr]))
    | refine go_exit ?_ | refine next_exit ?_ | refine inb_here ?_ | refine inb_past (by decide) ?_ | refine go_ret ?_ | refine next_ret ?_ | refine inb_ret ?_))
    exact ⟨hlt, by simp [hw, List.replicate_succ'], trivial⟩
  · (repeat (first
    | (apply is_ok; (case hw => simp [hlt]); (case he => simp [hlt]; exact is_rfl))
    | (apply op_no; (case hw => simp [hlt]))
    | refine op_nil ?_ | refine next_normal ?_ | refine go_seq ?_ | refine go_region ?_ | refine go_skip ?_ | refine go_block ?_ | refine inb_normal ?_
    | (apply go_yes; (case hc => simp [hlt])) | (apply go_no; (case hc => simp [hlt]))
    | refine go_exit ?_ | refine next_exit ?_ | refine inb_here ?_ | refine inb_past (by decide) ?_ | refine go_ret ?_ | refine next_ret ?_ | refine inb_ret ?_))
    (apply ends_ok; (case h1 => simp; exact is_rfl); (case h2 => simp; exact is_rfl))
    have : i = n := by omega
    simp [this]
end Go.Abs

namespace Go.Abs
open Go.Proofs
set_option maxRecDepth 100000
set_option linter.unusedSimpArgs false

/-- A drive's value. -/
abbrev drv (S : List (List UInt8)) (B : List Int) : V := .agg [.sl (strs S), .sl (ints B)]

def FairP (S : List (List UInt8)) (B : List Int) : Prop := S.length ≤ 64 ∧ B.length ≤ 80 ∧ ∀ s ∈ S, s.length ≤ 200
instance (S : List (List UInt8)) (B : List Int) : Decidable (FairP S B) := by unfold FairP; infer_instance

def RightP (S : List (List UInt8)) (B : List Int) : Prop := 1 ≤ S.length ∧ S.length ≤ 256 ∧ (∀ s ∈ S, s.length = 128) ∧ (∀ b ∈ B, 0 ≤ b ∧ b < S.length) ∧ ∀ i ∈ List.range B.length, 1 ≤ i → B.getD (i - 1) 0 < B.getD i 0
instance (S : List (List UInt8)) (B : List Int) : Decidable (RightP S B) := by unfold RightP; infer_instance

end Go.Abs

namespace Go.Abs
open Go.Proofs
set_option maxRecDepth 100000
set_option linter.unusedSimpArgs false

theorem has_eq (S : List (List UInt8)) (B : List Int) (k : Int) : bodyW DC 41 [drv S B, .int .i64 k] [] = some (.bool (decide (0 ≤ k ∧ k < S.length)), []) := by
  (refine gives_iff ?_; refine go_func Tryd.f41 rfl rfl (by simp [Tryd.f41]) ?_; dsimp only [codeL, Tryd.f41, scL, sopsL, guardL, dstAt, loopKey])
  by_cases h1 : 0 ≤ k
  · (repeat (first
    | (apply is_ok; (case hw => simp [h1]); (case he => simp [h1]; exact is_rfl))
    | (apply op_no; (case hw => simp [h1]))
    | refine op_nil ?_ | refine next_normal ?_ | refine go_seq ?_ | refine go_region ?_ | refine go_skip ?_ | refine go_block ?_ | refine inb_normal ?_
    | (apply go_yes; (case hc => simp [h1])) | (apply go_no; (case hc => simp [h1]))
    | refine go_exit ?_ | refine next_exit ?_ | refine inb_here ?_ | refine inb_past (by decide) ?_ | refine go_ret ?_ | refine next_ret ?_ | refine inb_ret ?_))
    (apply ends_ok; (case h1 => simp; exact is_rfl); (case h2 => simp; exact is_rfl))
    simp [h1]
  · (repeat (first
    | (apply is_ok; (case hw => simp [h1]); (case he => simp [h1]; exact is_rfl))
    | (apply op_no; (case hw => simp [h1]))
    | refine op_nil ?_ | refine next_normal ?_ | refine go_seq ?_ | refine go_region ?_ | refine go_skip ?_ | refine go_block ?_ | refine inb_normal ?_
    | (apply go_yes; (case hc => simp [h1])) | (apply go_no; (case hc => simp [h1]))
    | refine go_exit ?_ | refine next_exit ?_ | refine inb_here ?_ | refine inb_past (by decide) ?_ | refine go_ret ?_ | refine next_ret ?_ | refine inb_ret ?_))
    (apply ends_ok; (case h1 => simp; exact is_rfl); (case h2 => simp; exact is_rfl))
    simp [h1]

theorem Isbad_eq (S : List (List UInt8)) (B : List Int) (hB : B.length ≤ maxLen) (k : Int) : bodyW DC 48 [drv S B, .int .i64 k] [] = some (.bool (decide (k ∈ B)), []) := by
  unfold maxLen at hB
  (refine gives_iff ?_; refine go_func Tryd.f48 rfl rfl (by simp [Tryd.f48]) ?_; dsimp only [codeL, Tryd.f48, scL, sopsL, guardL, dstAt, loopKey])
  (repeat (first
    | (apply is_ok; (case hw => simp); (case he => simp; exact is_rfl))
    | (apply op_no; (case hw => simp))
    | refine op_nil ?_ | refine next_normal ?_ | refine go_seq ?_ | refine go_region ?_ | refine go_skip ?_ | refine go_block ?_ | refine inb_normal ?_
    | (apply go_yes; (case hc => simp)) | (apply go_no; (case hc => simp))
    | refine go_exit ?_ | refine next_exit ?_ | refine inb_here ?_ | refine inb_past (by decide) ?_ | refine go_ret ?_ | refine next_ret ?_ | refine inb_ret ?_))
  refine go_count B.length (fun i => [(1, .int .i64 k), (2, .ptr 0 1 0 0), (5, .int .i64 i)]) (fun _ => [.box (drv S B)]) (fun i => ∀ j (hj : j < B.length), j < i → B[j] ≠ k) (by simp) (by simp) fun i hi hI => ?_
  by_cases hlt : i < B.length
  · have hw : IntKind.i64.wrap ((i : Int) + 1) = (i : Int) + 1 := wrap_id (by omega) (by omega)
    by_cases h3 : B[i] = k
    · (repeat (first
    | (apply is_ok; (case hw => simp [hlt, h3]); (case he => simp [hlt, h3]; exact is_rfl))
    | (apply op_no; (case hw => simp [hlt, h3]))
    | refine op_nil ?_ | refine next_normal ?_ | refine go_seq ?_ | refine go_region ?_ | refine go_skip ?_ | refine go_block ?_ | refine inb_normal ?_
    | (apply go_yes; (case hc => simp [hlt, h3])) | (apply go_no; (case hc => simp [hlt, h3]))
    | refine go_exit ?_ | refine next_exit ?_ | refine inb_here ?_ | refine inb_past (by decide) ?_ | refine go_ret ?_ | refine next_ret ?_ | refine inb_ret ?_))
      (apply ends_ok; (case h1 => simp; exact is_rfl); (case h2 => simp; exact is_rfl))
      have : k ∈ B := h3 ▸ List.getElem_mem hlt
      simp [this]
    · (repeat (first
    | (apply is_ok; (case hw => simp [hlt, h3]); (case he => simp [hlt, h3]; exact is_rfl))
    | (apply op_no; (case hw => simp [hlt, h3]))
    | refine op_nil ?_ | refine next_normal ?_ | refine go_seq ?_ | refine go_region ?_ | refine go_skip ?_ | refine go_block ?_ | refine inb_normal ?_
    | (apply go_yes; (case hc => simp [hlt, h3])) | (apply go_no; (case hc => simp [hlt, h3]))
    | refine go_exit ?_ | refine next_exit ?_ | refine inb_here ?_ | refine inb_past (by decide) ?_ | refine go_ret ?_ | refine next_ret ?_ | refine inb_ret ?_))
      exact ⟨hlt, by simp [hw], fun j hj hji => by
        by_cases hje : j = i
        · subst hje; exact h3
        · exact hI j hj (by omega)⟩
  · (repeat (first
    | (apply is_ok; (case hw => simp [hlt]); (case he => simp [hlt]; exact is_rfl))
    | (apply op_no; (case hw => simp [hlt]))
    | refine op_nil ?_ | refine next_normal ?_ | refine go_seq ?_ | refine go_region ?_ | refine go_skip ?_ | refine go_block ?_ | refine inb_normal ?_
    | (apply go_yes; (case hc => simp [hlt])) | (apply go_no; (case hc => simp [hlt]))
    | refine go_exit ?_ | refine next_exit ?_ | refine inb_here ?_ | refine inb_past (by decide) ?_ | refine go_ret ?_ | refine next_ret ?_ | refine inb_ret ?_))
    (apply ends_ok; (case h1 => simp; exact is_rfl); (case h2 => simp; exact is_rfl))
    have : k ∉ B := fun h => by
      obtain ⟨j, hj, h⟩ := List.getElem_of_mem h
      exact hI j hj (by omega) h
    simp [this]

theorem RightR_eq (S : List (List UInt8)) (B : List Int) (hB : B.length ≤ maxLen) : bodyW DC 44 [drv S B] [] = some (.bool (decide (RightP S B)), []) := by
  unfold maxLen at hB
  (refine gives_iff ?_; refine go_func Tryd.f44 rfl rfl (by simp [Tryd.f44]) ?_; dsimp only [codeL, Tryd.f44, scL, sopsL, guardL, dstAt, loopKey])
  by_cases h1 : 1 ≤ S.length
  case neg =>
    have e1 : ((S.length : Int) < 1) := by omega
    (repeat (first
    | (apply is_ok; (case hw => simp [e1]); (case he => simp [e1]; exact is_rfl))
    | (apply op_no; (case hw => simp [e1]))
    | refine op_nil ?_ | refine next_normal ?_ | refine go_seq ?_ | refine go_region ?_ | refine go_skip ?_ | refine go_block ?_ | refine inb_normal ?_
    | (apply go_yes; (case hc => simp [e1])) | (apply go_no; (case hc => simp [e1]))
    | refine go_exit ?_ | refine next_exit ?_ | refine inb_here ?_ | refine inb_past (by decide) ?_ | refine go_ret ?_ | refine next_ret ?_ | refine inb_ret ?_))
    (apply ends_ok; (case h1 => simp; exact is_rfl); (case h2 => simp; exact is_rfl))
    have : ¬ RightP S B := fun h => h1 h.1
    simp [this]
  have e1 : ¬ ((S.length : Int) < 1) := by omega
  by_cases h2 : S.length ≤ 256
  case neg =>
    have e2 : ((256 : Int) < S.length) := by omega
    (repeat (first
    | (apply is_ok; (case hw => simp [e1, e2]); (case he => simp [e1, e2]; exact is_rfl))
    | (apply op_no; (case hw => simp [e1, e2]))
    | refine op_nil ?_ | refine next_normal ?_ | refine go_seq ?_ | refine go_region ?_ | refine go_skip ?_ | refine go_block ?_ | refine inb_normal ?_
    | (apply go_yes; (case hc => simp [e1, e2])) | (apply go_no; (case hc => simp [e1, e2]))
    | refine go_exit ?_ | refine next_exit ?_ | refine inb_here ?_ | refine inb_past (by decide) ?_ | refine go_ret ?_ | refine next_ret ?_ | refine inb_ret ?_))
    (apply ends_ok; (case h1 => simp; exact is_rfl); (case h2 => simp; exact is_rfl))
    have : ¬ RightP S B := fun h => h2 h.2.1
    simp [this]
  have e2 : ¬ ((256 : Int) < S.length) := by omega
  (repeat (first
    | (apply is_ok; (case hw => simp [e1, e2]); (case he => simp [e1, e2]; exact is_rfl))
    | (apply op_no; (case hw => simp [e1, e2]))
    | refine op_nil ?_ | refine next_normal ?_ | refine go_seq ?_ | refine go_region ?_ | refine go_skip ?_ | refine go_block ?_ | refine inb_normal ?_
    | (apply go_yes; (case hc => simp [e1, e2])) | (apply go_no; (case hc => simp [e1, e2]))
    | refine go_exit ?_ | refine next_exit ?_ | refine inb_here ?_ | refine inb_past (by decide) ?_ | refine go_ret ?_ | refine next_ret ?_ | refine inb_ret ?_))
  refine go_count S.length (fun i => [(1, .ptr 0 1 0 0), (3, .int .i64 i)]) (fun _ => [.box (drv S B)]) (fun i => ∀ j (hj : j < S.length), j < i → S[j].length = 128) (by simp) (by simp) fun i hi hI => ?_
  have hw : IntKind.i64.wrap ((i : Int) + 1) = (i : Int) + 1 := wrap_id (by omega) (by omega)
  by_cases hlt : i < S.length
  · by_cases h3 : S[i].length = 128
    · have e3 : ((S[i].length : Int) = 128) := by omega
      (repeat (first
    | (apply is_ok; (case hw => simp [hlt, h3, e3]); (case he => simp [hlt, h3, e3]; exact is_rfl))
    | (apply op_no; (case hw => simp [hlt, h3, e3]))
    | refine op_nil ?_ | refine next_normal ?_ | refine go_seq ?_ | refine go_region ?_ | refine go_skip ?_ | refine go_block ?_ | refine inb_normal ?_
    | (apply go_yes; (case hc => simp [hlt, h3, e3])) | (apply go_no; (case hc => simp [hlt, h3, e3]))
    | refine go_exit ?_ | refine next_exit ?_ | refine inb_here ?_ | refine inb_past (by decide) ?_ | refine go_ret ?_ | refine next_ret ?_ | refine inb_ret ?_))
      exact ⟨hlt, by simp [hw], fun j hj hji => by
        by_cases hje : j = i
        · subst hje; exact h3
        · exact hI j hj (by omega)⟩
    · have e3 : ¬ ((S[i].length : Int) = 128) := by omega
      (repeat (first
    | (apply is_ok; (case hw => simp [hlt, h3, e3]); (case he => simp [hlt, h3, e3]; exact is_rfl))
    | (apply op_no; (case hw => simp [hlt, h3, e3]))
    | refine op_nil ?_ | refine next_normal ?_ | refine go_seq ?_ | refine go_region ?_ | refine go_skip ?_ | refine go_block ?_ | refine inb_normal ?_
    | (apply go_yes; (case hc => simp [hlt, h3, e3])) | (apply go_no; (case hc => simp [hlt, h3, e3]))
    | refine go_exit ?_ | refine next_exit ?_ | refine inb_here ?_ | refine inb_past (by decide) ?_ | refine go_ret ?_ | refine next_ret ?_ | refine inb_ret ?_))
      (apply ends_ok; (case h1 => simp; exact is_rfl); (case h2 => simp; exact is_rfl))
      have : ¬ RightP S B := fun h => h3 (h.2.2.1 _ (List.getElem_mem hlt))
      simp [this]
  clear hw
  (repeat (first
    | (apply is_ok; (case hw => simp [hlt]); (case he => simp [hlt]; exact is_rfl))
    | (apply op_no; (case hw => simp [hlt]))
    | refine op_nil ?_ | refine next_normal ?_ | refine go_seq ?_ | refine go_region ?_ | refine go_skip ?_ | refine go_block ?_ | refine inb_normal ?_
    | (apply go_yes; (case hc => simp [hlt])) | (apply go_no; (case hc => simp [hlt]))
    | refine go_exit ?_ | refine next_exit ?_ | refine inb_here ?_ | refine inb_past (by decide) ?_ | refine go_ret ?_ | refine next_ret ?_ | refine inb_ret ?_))
  have hS : ∀ s ∈ S, s.length = 128 := fun s hs => by
    obtain ⟨j, hj, rfl⟩ := List.getElem_of_mem hs
    exact hI j hj (by omega)
  clear hlt hI hi
  refine go_count B.length (fun i => [(1, .ptr 0 1 0 0), (4, .int .i64 i)]) (fun _ => [.box (drv S B)]) (fun i => ∀ j (hj : j < B.length), j < i → 0 ≤ B[j] ∧ B[j] < S.length ∧ (1 ≤ j → B.getD (j - 1) 0 < B[j])) (by simp) (by simp) fun k hk hI => ?_
  by_cases hlt : k < B.length
  · have hw : IntKind.i64.wrap ((k : Int) + 1) = (k : Int) + 1 := wrap_id (by omega) (by omega)
    by_cases h3 : 0 ≤ B[k]
    case neg =>
      have e3 : B[k] < 0 := by omega
      (repeat (first
    | (apply is_ok; (case hw => simp [hlt, h3, e3]); (case he => simp [hlt, h3, e3]; exact is_rfl))
    | (apply op_no; (case hw => simp [hlt, h3, e3]))
    | refine op_nil ?_ | refine next_normal ?_ | refine go_seq ?_ | refine go_region ?_ | refine go_skip ?_ | refine go_block ?_ | refine inb_normal ?_
    | (apply go_yes; (case hc => simp [hlt, h3, e3])) | (apply go_no; (case hc => simp [hlt, h3, e3]))
    | refine go_exit ?_ | refine next_exit ?_ | refine inb_here ?_ | refine inb_past (by decide) ?_ | refine go_ret ?_ | refine next_ret ?_ | refine inb_ret ?_))
      (apply ends_ok; (case h1 => simp; exact is_rfl); (case h2 => simp; exact is_rfl))
      have : ¬ RightP S B := fun h => h3 (h.2.2.2.1 _ (List.getElem_mem hlt)).1
      simp [this]
    have e3 : ¬ (B[k] < 0) := by omega
    by_cases h4 : B[k] < S.length
    case neg =>
      have e4 : (S.length : Int) ≤ B[k] := by omega
      (repeat (first
    | (apply is_ok; (case hw => simp [hlt, h3, e3, h4, e4]); (case he => simp [hlt, h3, e3, h4, e4]; exact is_rfl))
    | (apply op_no; (case hw => simp [hlt, h3, e3, h4, e4]))
    | refine op_nil ?_ | refine next_normal ?_ | refine go_seq ?_ | refine go_region ?_ | refine go_skip ?_ | refine go_block ?_ | refine inb_normal ?_
    | (apply go_yes; (case hc => simp [hlt, h3, e3, h4, e4])) | (apply go_no; (case hc => simp [hlt, h3, e3, h4, e4]))
    | refine go_exit ?_ | refine next_exit ?_ | refine inb_here ?_ | refine inb_past (by decide) ?_ | refine go_ret ?_ | refine next_ret ?_ | refine inb_ret ?_))
      (apply ends_ok; (case h1 => simp; exact is_rfl); (case h2 => simp; exact is_rfl))
      have : ¬ RightP S B := fun h => h4 (h.2.2.2.1 _ (List.getElem_mem hlt)).2
      simp [this]
    have e4 : ¬ ((S.length : Int) ≤ B[k]) := by omega
    by_cases h5 : 0 < k
    · have hlt' : k - 1 < B.length := by omega
      have hw1 : IntKind.i64.wrap ((k : Int) - 1) = ((k - 1 : Nat) : Int) := by rw [wrap_id (by omega) (by omega)]; omega
      by_cases h6 : B[k - 1] < B[k]
      · have e6 : ¬ (B[k] ≤ B[k - 1]) := by omega
        (repeat (first
    | (apply is_ok; (case hw => simp [hlt, h3, e3, h4, e4, h5, hlt', hw1, h6, e6]); (case he => simp [hlt, h3, e3, h4, e4, h5, hlt', hw1, h6, e6]; exact is_rfl))
    | (apply op_no; (case hw => simp [hlt, h3, e3, h4, e4, h5, hlt', hw1, h6, e6]))
    | refine op_nil ?_ | refine next_normal ?_ | refine go_seq ?_ | refine go_region ?_ | refine go_skip ?_ | refine go_block ?_ | refine inb_normal ?_
    | (apply go_yes; (case hc => simp [hlt, h3, e3, h4, e4, h5, hlt', hw1, h6, e6])) | (apply go_no; (case hc => simp [hlt, h3, e3, h4, e4, h5, hlt', hw1, h6, e6]))
    | refine go_exit ?_ | refine next_exit ?_ | refine inb_here ?_ | refine inb_past (by decide) ?_ | refine go_ret ?_ | refine next_ret ?_ | refine inb_ret ?_))
        exact ⟨hlt, by simp [hw], fun j hj hji => by
          by_cases hje : j = k
          · subst hje; exact ⟨h3, h4, fun _ => by simpa [hlt'] using h6⟩
          · exact hI j hj (by omega)⟩
      · have e6 : (B[k] ≤ B[k - 1]) := by omega
        (repeat (first
    | (apply is_ok; (case hw => simp [hlt, h3, e3, h4, e4, h5, hlt', hw1, h6, e6]); (case he => simp [hlt, h3, e3, h4, e4, h5, hlt', hw1, h6, e6]; exact is_rfl))
    | (apply op_no; (case hw => simp [hlt, h3, e3, h4, e4, h5, hlt', hw1, h6, e6]))
    | refine op_nil ?_ | refine next_normal ?_ | refine go_seq ?_ | refine go_region ?_ | refine go_skip ?_ | refine go_block ?_ | refine inb_normal ?_
    | (apply go_yes; (case hc => simp [hlt, h3, e3, h4, e4, h5, hlt', hw1, h6, e6])) | (apply go_no; (case hc => simp [hlt, h3, e3, h4, e4, h5, hlt', hw1, h6, e6]))
    | refine go_exit ?_ | refine next_exit ?_ | refine inb_here ?_ | refine inb_past (by decide) ?_ | refine go_ret ?_ | refine next_ret ?_ | refine inb_ret ?_))
        (apply ends_ok; (case h1 => simp; exact is_rfl); (case h2 => simp; exact is_rfl))
        have : ¬ RightP S B := fun h => by
          have := h.2.2.2.2 k (List.mem_range.2 hlt) h5
          simp [hlt, hlt'] at this
          omega
        simp [this]
    · (repeat (first
    | (apply is_ok; (case hw => simp [hlt, h3, e3, h4, e4, h5]); (case he => simp [hlt, h3, e3, h4, e4, h5]; exact is_rfl))
    | (apply op_no; (case hw => simp [hlt, h3, e3, h4, e4, h5]))
    | refine op_nil ?_ | refine next_normal ?_ | refine go_seq ?_ | refine go_region ?_ | refine go_skip ?_ | refine go_block ?_ | refine inb_normal ?_
    | (apply go_yes; (case hc => simp [hlt, h3, e3, h4, e4, h5])) | (apply go_no; (case hc => simp [hlt, h3, e3, h4, e4, h5]))
    | refine go_exit ?_ | refine next_exit ?_ | refine inb_here ?_ | refine inb_past (by decide) ?_ | refine go_ret ?_ | refine next_ret ?_ | refine inb_ret ?_))
      exact ⟨hlt, by simp [hw], fun j hj hji => by
        by_cases hje : j = k
        · subst hje; exact ⟨h3, h4, fun _ => by omega⟩
        · exact hI j hj (by omega)⟩
  · (repeat (first
    | (apply is_ok; (case hw => simp [hlt]); (case he => simp [hlt]; exact is_rfl))
    | (apply op_no; (case hw => simp [hlt]))
    | refine op_nil ?_ | refine next_normal ?_ | refine go_seq ?_ | refine go_region ?_ | refine go_skip ?_ | refine go_block ?_ | refine inb_normal ?_
    | (apply go_yes; (case hc => simp [hlt])) | (apply go_no; (case hc => simp [hlt]))
    | refine go_exit ?_ | refine next_exit ?_ | refine inb_here ?_ | refine inb_past (by decide) ?_ | refine go_ret ?_ | refine next_ret ?_ | refine inb_ret ?_))
    (apply ends_ok; (case h1 => simp; exact is_rfl); (case h2 => simp; exact is_rfl))
    have : RightP S B := ⟨h1, h2, hS, fun b hb => by
      obtain ⟨j, hj, rfl⟩ := List.getElem_of_mem hb
      exact ⟨(hI j hj (by omega)).1, (hI j hj (by omega)).2.1⟩, fun j hj h => by
      have hj' := List.mem_range.1 hj
      have := (hI j hj' (by omega)).2.2 h
      simpa [hj'] using this⟩
    simp [this]
end Go.Abs

namespace Go.Abs
open Go.Proofs
set_option maxRecDepth 100000
set_option linter.unusedSimpArgs false

theorem Right_eq (S : List (List UInt8)) (B : List Int) (hB : B.length ≤ maxLen) : bodyW DC 39 [drv S B] [] = some (.bool (decide (RightP S B)), []) := by
  unfold maxLen at hB
  (refine gives_iff ?_; refine go_func Tryd.f39 rfl rfl (by simp [Tryd.f39]) ?_; dsimp only [codeL, Tryd.f39, scL, sopsL, guardL, dstAt, loopKey])
  by_cases h1 : 1 ≤ S.length
  case neg =>
    have e1 : ((S.length : Int) < 1) := by omega
    (repeat (first
    | (apply is_ok; (case hw => simp [e1]); (case he => simp [e1]; exact is_rfl))
    | (apply op_no; (case hw => simp [e1]))
    | refine op_nil ?_ | refine next_normal ?_ | refine go_seq ?_ | refine go_region ?_ | refine go_skip ?_ | refine go_block ?_ | refine inb_normal ?_
    | (apply go_yes; (case hc => simp [e1])) | (apply go_no; (case hc => simp [e1]))
    | refine go_exit ?_ | refine next_exit ?_ | refine inb_here ?_ | refine inb_past (by decide) ?_ | refine go_ret ?_ | refine next_ret ?_ | refine inb_ret ?_))
    (apply ends_ok; (case h1 => simp; exact is_rfl); (case h2 => simp; exact is_rfl))
    have : ¬ RightP S B := fun h => h1 h.1
    simp [this]
  have e1 : ¬ ((S.length : Int) < 1) := by omega
  by_cases h2 : S.length ≤ 256
  case neg =>
    have e2 : ((256 : Int) < S.length) := by omega
    (repeat (first
    | (apply is_ok; (case hw => simp [e1, e2]); (case he => simp [e1, e2]; exact is_rfl))
    | (apply op_no; (case hw => simp [e1, e2]))
    | refine op_nil ?_ | refine next_normal ?_ | refine go_seq ?_ | refine go_region ?_ | refine go_skip ?_ | refine go_block ?_ | refine inb_normal ?_
    | (apply go_yes; (case hc => simp [e1, e2])) | (apply go_no; (case hc => simp [e1, e2]))
    | refine go_exit ?_ | refine next_exit ?_ | refine inb_here ?_ | refine inb_past (by decide) ?_ | refine go_ret ?_ | refine next_ret ?_ | refine inb_ret ?_))
    (apply ends_ok; (case h1 => simp; exact is_rfl); (case h2 => simp; exact is_rfl))
    have : ¬ RightP S B := fun h => h2 h.2.1
    simp [this]
  have e2 : ¬ ((256 : Int) < S.length) := by omega
  (repeat (first
    | (apply is_ok; (case hw => simp [e1, e2]); (case he => simp [e1, e2]; exact is_rfl))
    | (apply op_no; (case hw => simp [e1, e2]))
    | refine op_nil ?_ | refine next_normal ?_ | refine go_seq ?_ | refine go_region ?_ | refine go_skip ?_ | refine go_block ?_ | refine inb_normal ?_
    | (apply go_yes; (case hc => simp [e1, e2])) | (apply go_no; (case hc => simp [e1, e2]))
    | refine go_exit ?_ | refine next_exit ?_ | refine inb_here ?_ | refine inb_past (by decide) ?_ | refine go_ret ?_ | refine next_ret ?_ | refine inb_ret ?_))
  refine go_count S.length (fun i => [(1, .ptr 0 1 0 0), (19, .sl (strs S)), (20, .int .i64 S.length), (21, .int .i64 i)]) (fun _ => [.box (drv S B)]) (fun i => ∀ j (hj : j < S.length), j < i → S[j].length = 128) (by simp) (by simp) fun i hi hI => ?_
  have hw : IntKind.i64.wrap ((i : Int) + 1) = (i : Int) + 1 := wrap_id (by omega) (by omega)
  by_cases hlt : i < S.length
  · by_cases h3 : S[i].length = 128
    · have e3 : ((S[i].length : Int) = 128) := by omega
      (repeat (first
    | (apply is_ok; (case hw => simp [hlt, h3, e3]); (case he => simp [hlt, h3, e3]; exact is_rfl))
    | (apply op_no; (case hw => simp [hlt, h3, e3]))
    | refine op_nil ?_ | refine next_normal ?_ | refine go_seq ?_ | refine go_region ?_ | refine go_skip ?_ | refine go_block ?_ | refine inb_normal ?_
    | (apply go_yes; (case hc => simp [hlt, h3, e3])) | (apply go_no; (case hc => simp [hlt, h3, e3]))
    | refine go_exit ?_ | refine next_exit ?_ | refine inb_here ?_ | refine inb_past (by decide) ?_ | refine go_ret ?_ | refine next_ret ?_ | refine inb_ret ?_))
      exact ⟨hlt, by simp [hw], fun j hj hji => by
        by_cases hje : j = i
        · subst hje; exact h3
        · exact hI j hj (by omega)⟩
    · have e3 : ¬ ((S[i].length : Int) = 128) := by omega
      (repeat (first
    | (apply is_ok; (case hw => simp [hlt, h3, e3]); (case he => simp [hlt, h3, e3]; exact is_rfl))
    | (apply op_no; (case hw => simp [hlt, h3, e3]))
    | refine op_nil ?_ | refine next_normal ?_ | refine go_seq ?_ | refine go_region ?_ | refine go_skip ?_ | refine go_block ?_ | refine inb_normal ?_
    | (apply go_yes; (case hc => simp [hlt, h3, e3])) | (apply go_no; (case hc => simp [hlt, h3, e3]))
    | refine go_exit ?_ | refine next_exit ?_ | refine inb_here ?_ | refine inb_past (by decide) ?_ | refine go_ret ?_ | refine next_ret ?_ | refine inb_ret ?_))
      (apply ends_ok; (case h1 => simp; exact is_rfl); (case h2 => simp; exact is_rfl))
      have : ¬ RightP S B := fun h => h3 (h.2.2.1 _ (List.getElem_mem hlt))
      simp [this]
  clear hw
  (repeat (first
    | (apply is_ok; (case hw => simp [hlt]); (case he => simp [hlt]; exact is_rfl))
    | (apply op_no; (case hw => simp [hlt]))
    | refine op_nil ?_ | refine next_normal ?_ | refine go_seq ?_ | refine go_region ?_ | refine go_skip ?_ | refine go_block ?_ | refine inb_normal ?_
    | (apply go_yes; (case hc => simp [hlt])) | (apply go_no; (case hc => simp [hlt]))
    | refine go_exit ?_ | refine next_exit ?_ | refine inb_here ?_ | refine inb_past (by decide) ?_ | refine go_ret ?_ | refine next_ret ?_ | refine inb_ret ?_))
  have hS : ∀ s ∈ S, s.length = 128 := fun s hs => by
    obtain ⟨j, hj, rfl⟩ := List.getElem_of_mem hs
    exact hI j hj (by omega)
  clear hlt hI hi
  refine go_count B.length (fun k => [(1, .ptr 0 1 0 0), (5, .int .i64 (if k = 0 then -1 else B.getD (k - 1) 0)), (30, .sl (ints B)), (31, .int .i64 B.length), (32, .int .i64 k)]) (fun _ => [.box (drv S B)])
    (fun k => ∀ j (hj : j < B.length), j < k → 0 ≤ B[j] ∧ B[j] < S.length ∧ (1 ≤ j → B.getD (j - 1) 0 < B[j])) (by simp) (by simp) fun k hk hI => ?_
  by_cases hlt : k < B.length
  · have hw : IntKind.i64.wrap ((k : Int) + 1) = (k : Int) + 1 := wrap_id (by omega) (by omega)
    have hl : (if k = 0 then (-1 : Int) else B.getD (k - 1) 0) ≥ -1 := by
      split
      · omega
      · have hlt' : k - 1 < B.length := by omega
        have := (hI (k - 1) hlt' (by omega)).1
        simp [hlt']; omega
    generalize hL : (if k = 0 then (-1 : Int) else B.getD (k - 1) 0) = L at hl
    by_cases h3 : B[k] ≤ L
    case pos =>
      (repeat (first
    | (apply is_ok; (case hw => simp [hlt, h3]); (case he => simp [hlt, h3]; exact is_rfl))
    | (apply op_no; (case hw => simp [hlt, h3]))
    | refine op_nil ?_ | refine next_normal ?_ | refine go_seq ?_ | refine go_region ?_ | refine go_skip ?_ | refine go_block ?_ | refine inb_normal ?_
    | (apply go_yes; (case hc => simp [hlt, h3])) | (apply go_no; (case hc => simp [hlt, h3]))
    | refine go_exit ?_ | refine next_exit ?_ | refine inb_here ?_ | refine inb_past (by decide) ?_ | refine go_ret ?_ | refine next_ret ?_ | refine inb_ret ?_))
      (apply ends_ok; (case h1 => simp; exact is_rfl); (case h2 => simp; exact is_rfl))
      have : ¬ RightP S B := fun h => by
        have h0 := (h.2.2.2.1 _ (List.getElem_mem hlt)).1
        by_cases hk0 : k = 0
        · rw [if_pos hk0] at hL; omega
        · rw [if_neg hk0] at hL
          have := h.2.2.2.2 k (List.mem_range.2 hlt) (by omega)
          have e : B.getD k 0 = B[k] := by simp [hlt]
          omega
      simp [this]
    by_cases h4 : B[k] < S.length
    case neg =>
      have e4 : (S.length : Int) ≤ B[k] := by omega
      (repeat (first
    | (apply is_ok; (case hw => simp [hlt, h3, h4, e4]); (case he => simp [hlt, h3, h4, e4]; exact is_rfl))
    | (apply op_no; (case hw => simp [hlt, h3, h4, e4]))
    | refine op_nil ?_ | refine next_normal ?_ | refine go_seq ?_ | refine go_region ?_ | refine go_skip ?_ | refine go_block ?_ | refine inb_normal ?_
    | (apply go_yes; (case hc => simp [hlt, h3, h4, e4])) | (apply go_no; (case hc => simp [hlt, h3, h4, e4]))
    | refine go_exit ?_ | refine next_exit ?_ | refine inb_here ?_ | refine inb_past (by decide) ?_ | refine go_ret ?_ | refine next_ret ?_ | refine inb_ret ?_))
      (apply ends_ok; (case h1 => simp; exact is_rfl); (case h2 => simp; exact is_rfl))
      have : ¬ RightP S B := fun h => h4 (h.2.2.2.1 _ (List.getElem_mem hlt)).2
      simp [this]
    have e4 : ¬ ((S.length : Int) ≤ B[k]) := by omega
    (repeat (first
    | (apply is_ok; (case hw => simp [hlt, h3, h4, e4]); (case he => simp [hlt, h3, h4, e4]; exact is_rfl))
    | (apply op_no; (case hw => simp [hlt, h3, h4, e4]))
    | refine op_nil ?_ | refine next_normal ?_ | refine go_seq ?_ | refine go_region ?_ | refine go_skip ?_ | refine go_block ?_ | refine inb_normal ?_
    | (apply go_yes; (case hc => simp [hlt, h3, h4, e4])) | (apply go_no; (case hc => simp [hlt, h3, h4, e4]))
    | refine go_exit ?_ | refine next_exit ?_ | refine inb_here ?_ | refine inb_past (by decide) ?_ | refine go_ret ?_ | refine next_ret ?_ | refine inb_ret ?_))
    exact ⟨hlt, by simp [hw, hlt], fun j hj hji => by
      by_cases hje : j = k
      · subst hje
        refine ⟨by omega, h4, fun h => ?_⟩
        rw [if_neg (by omega)] at hL
        omega
      · exact hI j hj (by omega)⟩
  · (repeat (first
    | (apply is_ok; (case hw => simp [hlt]); (case he => simp [hlt]; exact is_rfl))
    | (apply op_no; (case hw => simp [hlt]))
    | refine op_nil ?_ | refine next_normal ?_ | refine go_seq ?_ | refine go_region ?_ | refine go_skip ?_ | refine go_block ?_ | refine inb_normal ?_
    | (apply go_yes; (case hc => simp [hlt])) | (apply go_no; (case hc => simp [hlt]))
    | refine go_exit ?_ | refine next_exit ?_ | refine inb_here ?_ | refine inb_past (by decide) ?_ | refine go_ret ?_ | refine next_ret ?_ | refine inb_ret ?_))
    (apply ends_ok; (case h1 => simp; exact is_rfl); (case h2 => simp; exact is_rfl))
    have : RightP S B := ⟨h1, h2, hS, fun b hb => by
      obtain ⟨j, hj, rfl⟩ := List.getElem_of_mem hb
      exact ⟨(hI j hj (by omega)).1, (hI j hj (by omega)).2.1⟩, fun j hj h => by
      have hj' := List.mem_range.1 hj
      have := (hI j hj' (by omega)).2.2 h
      simpa [hj'] using this⟩
    simp [this]

end Go.Abs

namespace Go.Abs
open Go.Proofs
set_option maxRecDepth 100000
set_option linter.unusedSimpArgs false
set_option linter.unusedVariables false

theorem map_of {α : Type} {es : List V} {f : α → V} {p : α → Prop} (h : ∀ x ∈ es, ∃ a, x = f a ∧ p a) : ∃ l : List α, es = l.map f ∧ ∀ a ∈ l, p a := by
  induction es with
  | nil => exact ⟨[], rfl, by simp⟩
  | cons x es ih =>
    obtain ⟨l, rfl, h2⟩ := ih fun y hy => h y (List.mem_cons_of_mem _ hy)
    obtain ⟨a, rfl, h3⟩ := h x (List.mem_cons_self ..)
    exact ⟨a :: l, rfl, fun b hb => by
      rcases List.mem_cons.1 hb with rfl | hb
      · exact h3
      · exact h2 b hb⟩

theorem cells_one {x : V} (h : x.isAgg = false) : x.cells = [x] := by cases x <;> first | rfl | cases h
theorem cells_some {x : V} (h : x.isAgg = true) : ∃ cs, x = .agg cs := by cases x <;> first | exact ⟨_, rfl⟩ | cases h

section
variable {P : Program} {n : Nat} {t e : TypeId} {x : V}
theorem hasT_pos {xs : List V} (h : HasT P n t xs) : ∃ m, n = m + 1 := by
  cases n with
  | zero => exact h.elim
  | succ m => exact ⟨m, rfl⟩
theorem hasT_int {k : IntKind} (hu : P.underlying t = some (.int k)) {xs : List V} (h : HasT P n t xs) : ∃ m, xs = [.int k m] ∧ (Lit.int k m).wf = true := by
  obtain ⟨m, rfl⟩ := hasT_pos h
  simpa only [HasT, hu] using h
theorem hasT_str (hu : P.underlying t = some .string) {xs : List V} (h : HasT P n t xs) : ∃ s : List UInt8, xs = [.str s] ∧ s.length ≤ maxLen := by
  obtain ⟨m, rfl⟩ := hasT_pos h
  simpa only [HasT, hu] using h
theorem hasT_bool (hu : P.underlying t = some .bool) {xs : List V} (h : HasT P n t xs) : ∃ b, xs = [.bool b] := by
  obtain ⟨m, rfl⟩ := hasT_pos h
  simpa only [HasT, hu] using h
theorem hasT_slice (hu : P.underlying t = some (.slice e)) (hc : P.cellsOf e ≠ 0) {xs : List V} (h : HasT P n t xs) : ∃ m es, n = m + 1 ∧ xs = [.sl es] ∧ es.length ≤ maxLen ∧ ∀ x ∈ es, aggT P e = some x.isAgg ∧ HasT P m e x.cells := by
  obtain ⟨m, rfl⟩ := hasT_pos h
  simp only [HasT, hu, if_neg hc] at h
  obtain ⟨es, h1, h2, h3⟩ := h
  exact ⟨m, es, rfl, h1, h2, h3⟩
theorem hasT_strs (hu : P.underlying t = some (.slice e)) (hc : P.cellsOf e ≠ 0) (he : P.underlying e = some .string) {xs : List V} (h : HasT P n t xs) : ∃ S : List (List UInt8), xs = [.sl (S.map V.str)] ∧ S.length ≤ maxLen ∧ ∀ s ∈ S, s.length ≤ maxLen := by
  obtain ⟨m, es, rfl, rfl, h1, h2⟩ := hasT_slice hu hc h
  have hag : aggT P e = some false := by simp [aggT, he]
  obtain ⟨S, rfl, h3⟩ := map_of (p := fun s => s.length ≤ maxLen) (f := V.str) fun x hx => by
    obtain ⟨h3, h4⟩ := h2 x hx
    rw [hag] at h3
    obtain ⟨s, h5, h6⟩ := hasT_str he h4
    rw [cells_one (Option.some.inj h3).symm] at h5
    cases h5
    exact ⟨s, rfl, h6⟩
  exact ⟨S, rfl, by simpa using h1, h3⟩
theorem hasT_ints {k : IntKind} (hu : P.underlying t = some (.slice e)) (hc : P.cellsOf e ≠ 0) (he : P.underlying e = some (.int k)) {xs : List V} (h : HasT P n t xs) : ∃ S : List Int, xs = [.sl (S.map (V.int k))] ∧ S.length ≤ maxLen ∧ ∀ s ∈ S, (Lit.int k s).wf = true := by
  obtain ⟨m, es, rfl, rfl, h1, h2⟩ := hasT_slice hu hc h
  have hag : aggT P e = some false := by simp [aggT, he]
  obtain ⟨S, rfl, h3⟩ := map_of (p := fun s => (Lit.int k s).wf = true) (f := V.int k) fun x hx => by
    obtain ⟨h3, h4⟩ := h2 x hx
    rw [hag] at h3
    obtain ⟨s, h5, h6⟩ := hasT_int he h4
    rw [cells_one (Option.some.inj h3).symm] at h5
    cases h5
    exact ⟨s, rfl, h6⟩
  exact ⟨S, rfl, by simpa using h1, h3⟩
theorem hasT_struct {fs : Array Field} (hu : P.underlying t = some (.struct fs)) {xs : List V} (h : HasT P n t xs) : ∃ m, n = m + 1 ∧ xs.length = P.cellsOf t ∧ ∀ (i : Nat) (f : Field), fs[i]? = some f → HasT P m f.type ((xs.drop f.offset).take (P.cellsOf f.type)) := by
  obtain ⟨m, rfl⟩ := hasT_pos h
  simp only [HasT, hu] at h
  exact ⟨m, rfl, h.1, fun i f hf => h.2 f (by simpa using Array.mem_of_getElem? hf)⟩
theorem int_of {k : IntKind} (hu : P.underlying t = some (.int k)) (h : ArgT P t x) : ∃ m, x = .int k m ∧ (Lit.int k m).wf = true := by
  obtain ⟨n, h1, h2⟩ := h
  rw [show aggT P t = some false by simp [aggT, hu]] at h2
  rw [cells_one (Option.some.inj h2).symm] at h1
  obtain ⟨m, h3, h4⟩ := hasT_int hu h1
  cases h3
  exact ⟨m, rfl, h4⟩
theorem str_of (hu : P.underlying t = some .string) (h : ArgT P t x) : ∃ s : List UInt8, x = .str s ∧ s.length ≤ maxLen := by
  obtain ⟨n, h1, h2⟩ := h
  rw [show aggT P t = some false by simp [aggT, hu]] at h2
  rw [cells_one (Option.some.inj h2).symm] at h1
  obtain ⟨m, h3, h4⟩ := hasT_str hu h1
  cases h3
  exact ⟨m, rfl, h4⟩
theorem wf_i64 {m : Int} (h : (Lit.int .i64 m).wf = true) : -9223372036854775808 ≤ m ∧ m ≤ 9223372036854775807 := by
  simpa [Lit.wf, IntKind.min, IntKind.max, IntKind.signed, IntKind.bits] using h
end

theorem cells_ne {P : Program} {e : TypeId} {n : Nat} (h : P.cellsOf e = n) (hn : n ≠ 0) : P.cellsOf e ≠ 0 := by rw [h]; exact hn

theorem drv_cells {n : Nat} {cs : List V} (h : HasT Tryd.prog n 25 cs) : ∃ S B, cs = [.sl (strs S), .sl (ints B)] ∧ S.length ≤ maxLen ∧ B.length ≤ maxLen := by
  obtain ⟨m, rfl, h1, h2⟩ := hasT_struct Tryd.underlying25 h
  have hl : cs.length = 2 := h1.trans (by kernel_rfl)
  match cs, hl with
  | [a, b], _ =>
    have f0 := h2 0 _ rfl
    have f1 := h2 1 _ rfl
    obtain ⟨S, e1, hS, _⟩ := hasT_strs Tryd.underlying22 (cells_ne (n := 1) (by kernel_rfl) (by decide)) Tryd.underlying9 f0
    obtain ⟨B, e2, hB, _⟩ := hasT_ints Tryd.underlying23 (cells_ne (n := 1) (by kernel_rfl) (by decide)) Tryd.underlying3 f1
    have e1' : [a] = [V.sl (strs S)] := e1
    have e2' : [b] = [V.sl (ints B)] := e2
    cases e1'
    cases e2'
    exact ⟨S, B, rfl, hS, hB⟩
theorem drv_of {x : V} (h : ArgT Tryd.prog 25 x) : ∃ S B, x = drv S B ∧ S.length ≤ maxLen ∧ B.length ≤ maxLen := by
  obtain ⟨n, h1, h2⟩ := h
  rw [show aggT Tryd.prog 25 = some true by kernel_rfl] at h2
  obtain ⟨cs, rfl⟩ := cells_some (Option.some.inj h2).symm
  obtain ⟨S, B, h3, h4⟩ := drv_cells h1
  cases h3
  exact ⟨S, B, rfl, h4⟩

end Go.Abs

namespace Go.Abs
open Go.Proofs
set_option maxRecDepth 100000
set_option linter.unusedSimpArgs false
set_option linter.unusedVariables false

@[simp] theorem sealL_ints (H : Heap) (k : IntKind) (L : List Int) : sealL H (L.map (V.int k)) = some (L.map (V.int k), []) := by
  induction L with
  | nil => rfl
  | cons a L ih => simp [ih]
@[simp] theorem sealL_strs (H : Heap) (L : List (List UInt8)) : sealL H (L.map V.str) = some (L.map V.str, []) := by
  induction L with
  | nil => rfl
  | cons a L ih => simp [ih]

section
variable {P : Program}
@[simp] theorem binV_ii (op : BinOp) (t : TypeId) (k k' : IntKind) (a b : Int) : binV P op t (.int k a) (.int k' b) = if isShift op then shiftOp op k a b else if k = k' then intOp op k a b else none := rfl
@[simp] theorem binV_ss (op : BinOp) (t : TypeId) (a b : List UInt8) : binV P op t (.str a) (.str b) = strOp op a b := rfl
@[simp] theorem binV_bb (op : BinOp) (t : TypeId) (a b : Bool) : binV P op t (.bool a) (.bool b) = if P.underlying t matches some .bool then match op with
    | .eql => some (.bool (a == b))
    | .neq => some (.bool (!(a == b)))
    | _ => none
    else none := rfl
end

/-- The value of an encoding, its cells told. -/
theorem parseV_shape (s : List UInt8) : ∃ k l z a b c d e f g h, parseV s = .agg [.int .i64 k, .int .i64 l, .int .i64 z, .int .i64 a, .int .i64 b, .int .i64 c, .int .i64 d, .int .i64 e, .int .i64 f, .int .i64 g, .int .i64 h] ∧ In64 [k, l, z, a, b, c, d, e, f, g, h] := by
  unfold parseV
  split
  · exact ⟨_, _, _, _, _, _, _, _, _, _, _, rfl, in64_wd s⟩
  · exact ⟨0, 0, 0, 0, 0, 0, 0, 0, 0, 0, 0, rfl, by intro x hx; simp at hx; omega⟩
end Go.Abs

namespace Go.Abs
open Go.Proofs
set_option maxRecDepth 100000
set_option linter.unusedSimpArgs false

def wornK (B : List Int) : List Int := B.foldl (fun ks n => if n ∈ ks then ks else ks ++ [n]) []
theorem wornK_take {B : List Int} {i : Nat} (h : i < B.length) : wornK (B.take (i + 1)) = if B[i] ∈ wornK (B.take i) then wornK (B.take i) else wornK (B.take i) ++ [B[i]] := by
  unfold wornK
  rw [List.take_succ_eq_append_getElem h, List.foldl_append]
  rfl
theorem foldl_mem (k : Int) : ∀ (B ks : List Int), k ∈ B.foldl (fun ks n => if n ∈ ks then ks else ks ++ [n]) ks ↔ k ∈ ks ∨ k ∈ B
  | [], ks => by simp
  | b :: B, ks => by
    rw [List.foldl_cons, foldl_mem k B]
    by_cases h : b ∈ ks
    · rw [if_pos h]
      constructor
      · rintro (h1 | h1)
        · exact .inl h1
        · exact .inr (List.mem_cons_of_mem _ h1)
      · rintro (h1 | h1)
        · exact .inl h1
        · rcases List.mem_cons.1 h1 with rfl | h1
          · exact .inl h
          · exact .inr h1
    · rw [if_neg h]; simp [or_assoc]
theorem mem_worn {k : Int} {B : List Int} : k ∈ wornK B ↔ k ∈ B := by unfold wornK; rw [foldl_mem]; simp

theorem findK_ints (k : Int) (v : V) : ∀ (ks : List Int), findK (.int .i64 k) (ints ks) (List.replicate ks.length v) = some (if k ∈ ks then some v else none)
  | [] => by simp [findK]
  | c :: ks => by
    simp only [List.map_cons, List.length_cons, List.replicate_succ, findK, sameKey]
    by_cases h : k = c
    · subst h; simp
    · have : (k == c) = false := by simpa using h
      simp only [if_true, this]
      rw [findK_ints k v ks]
      simp [h]
theorem findK_worn (k : Int) (v : V) (B : List Int) : findK (.int .i64 k) (ints (wornK B)) (List.replicate (wornK B).length v) = some (if k ∈ B then some v else none) := by
  rw [findK_ints]
  simp only [mem_worn]
theorem setK_ints (k : Int) (v : V) : ∀ (ks : List Int), setK (.int .i64 k) v (ints ks) (List.replicate ks.length v) = List.replicate ks.length v
  | [] => by simp [setK]
  | c :: ks => by
    simp only [List.map_cons, List.length_cons, List.replicate_succ, setK, sameKey]
    by_cases h : k = c
    · subst h; simp
    · have : (k == c) = false := by simpa using h
      simp only [if_true, this]
      rw [setK_ints k v ks]

abbrev wornV (B : List Int) : V := .mapr (ints (wornK B)) (List.replicate (wornK B).length (.bool true))

theorem worn_eq (S : List (List UInt8)) (B : List Int) (hB : B.length ≤ maxLen) : bodyW DC 42 [drv S B] [] = some (.map 0, [.map true (ints (wornK B)) (List.replicate (wornK B).length (.bool true))]) := by
  unfold maxLen at hB
  (refine gives_iff ?_; refine go_func Tryd.f42 rfl rfl (by simp [Tryd.f42]) ?_; dsimp only [codeL, Tryd.f42, scL, sopsL, guardL, dstAt, loopKey])
  (repeat (first
    | (apply is_ok; (case hw => simp); (case he => simp; exact is_rfl))
    | (apply op_no; (case hw => simp))
    | refine op_nil ?_ | refine next_normal ?_ | refine go_seq ?_ | refine go_region ?_ | refine go_skip ?_ | refine go_block ?_ | refine inb_normal ?_
    | (apply go_yes; (case hc => simp)) | (apply go_no; (case hc => simp))
    | refine go_exit ?_ | refine next_exit ?_ | refine inb_here ?_ | refine inb_past (by decide) ?_ | refine go_ret ?_ | refine next_ret ?_ | refine inb_ret ?_))
  refine go_count B.length (fun i => [(3, .map 0), (8, .sl (ints B)), (9, .int .i64 B.length), (10, .int .i64 i)]) (fun i => [.map true (ints (wornK (B.take i))) (List.replicate (wornK (B.take i)).length (.bool true))]) (fun _ => True) (by simp [wornK]) trivial fun i hi _ => ?_
  by_cases hlt : i < B.length
  · have hw : IntKind.i64.wrap ((i : Int) + 1) = (i : Int) + 1 := wrap_id (by omega) (by omega)
    have hf := findK_ints B[i] (.bool true) (wornK (B.take i))
    have hs := setK_ints B[i] (.bool true) (wornK (B.take i))
    by_cases hm : B[i] ∈ wornK (B.take i)
    · rw [if_pos hm] at hf
      (repeat (first
    | (apply is_ok; (case hw => simp [hlt, hf, hs]); (case he => simp [hlt, hf, hs]; exact is_rfl))
    | (apply op_no; (case hw => simp [hlt, hf, hs]))
    | refine op_nil ?_ | refine next_normal ?_ | refine go_seq ?_ | refine go_region ?_ | refine go_skip ?_ | refine go_block ?_ | refine inb_normal ?_
    | (apply go_yes; (case hc => simp [hlt, hf, hs])) | (apply go_no; (case hc => simp [hlt, hf, hs]))
    | refine go_exit ?_ | refine next_exit ?_ | refine inb_here ?_ | refine inb_past (by decide) ?_ | refine go_ret ?_ | refine next_ret ?_ | refine inb_ret ?_))
      exact ⟨hlt, by simp [hw, wornK_take hlt, hm], trivial⟩
    · rw [if_neg hm] at hf
      (repeat (first
    | (apply is_ok; (case hw => simp [hlt, hf, hs]); (case he => simp [hlt, hf, hs]; exact is_rfl))
    | (apply op_no; (case hw => simp [hlt, hf, hs]))
    | refine op_nil ?_ | refine next_normal ?_ | refine go_seq ?_ | refine go_region ?_ | refine go_skip ?_ | refine go_block ?_ | refine inb_normal ?_
    | (apply go_yes; (case hc => simp [hlt, hf, hs])) | (apply go_no; (case hc => simp [hlt, hf, hs]))
    | refine go_exit ?_ | refine next_exit ?_ | refine inb_here ?_ | refine inb_past (by decide) ?_ | refine go_ret ?_ | refine next_ret ?_ | refine inb_ret ?_))
      exact ⟨hlt, by simp [hw, wornK_take hlt, hm, List.replicate_succ'], trivial⟩
  · have : i = B.length := by omega
    subst this
    rw [List.take_length]
    (repeat (first
    | (apply is_ok; (case hw => simp); (case he => simp; exact is_rfl))
    | (apply op_no; (case hw => simp))
    | refine op_nil ?_ | refine next_normal ?_ | refine go_seq ?_ | refine go_region ?_ | refine go_skip ?_ | refine go_block ?_ | refine inb_normal ?_
    | (apply go_yes; (case hc => simp)) | (apply go_no; (case hc => simp))
    | refine go_exit ?_ | refine next_exit ?_ | refine inb_here ?_ | refine inb_past (by decide) ?_ | refine go_ret ?_ | refine next_ret ?_ | refine inb_ret ?_))
    (apply ends_ok; (case h1 => simp; exact is_rfl); (case h2 => simp; exact is_rfl))
    simp

def readS (S : List (List UInt8)) (B : List Int) (k : Int) : List UInt8 × Int := if 0 ≤ k ∧ k < S.length then if k ∈ B then ([], 21) else (S.getD k.toNat [], 0) else ([], 2)

theorem Read_eq (S : List (List UInt8)) (B : List Int) (hB : B.length ≤ maxLen) (k : Int) : bodyW DC 21 [drv S B, .int .i64 k] [] = some (.tuple [.str (readS S B k).1, .int .i64 (readS S B k).2], []) := by
  have hH := has_eq S B k
  have hW := worn_eq S B hB
  have hf := findK_worn k (.bool true) B
  unfold readS
  (refine gives_iff ?_; refine go_func Tryd.f21 rfl rfl (by simp [Tryd.f21]) ?_; dsimp only [codeL, Tryd.f21, scL, sopsL, guardL, dstAt, loopKey])
  by_cases h : 0 ≤ k ∧ k < S.length
  · have hl : k.toNat < S.length := by omega
    by_cases hk : k ∈ B
    · rw [if_pos hk] at hf
      (repeat (first
    | (apply is_ok; (case hw => simp [hH, hW, hf, h]); (case he => simp [hH, hW, hf, h]; exact is_rfl))
    | (apply op_no; (case hw => simp [hH, hW, hf, h]))
    | refine op_nil ?_ | refine next_normal ?_ | refine go_seq ?_ | refine go_region ?_ | refine go_skip ?_ | refine go_block ?_ | refine inb_normal ?_
    | (apply go_yes; (case hc => simp [hH, hW, hf, h])) | (apply go_no; (case hc => simp [hH, hW, hf, h]))
    | refine go_exit ?_ | refine next_exit ?_ | refine inb_here ?_ | refine inb_past (by decide) ?_ | refine go_ret ?_ | refine next_ret ?_ | refine inb_ret ?_))
      (apply ends_ok; (case h1 => simp; exact is_rfl); (case h2 => simp; exact is_rfl))
      simp [h, hk]
    · rw [if_neg hk] at hf
      (repeat (first
    | (apply is_ok; (case hw => simp [hH, hW, hf, h, hl]); (case he => simp [hH, hW, hf, h, hl]; exact is_rfl))
    | (apply op_no; (case hw => simp [hH, hW, hf, h, hl]))
    | refine op_nil ?_ | refine next_normal ?_ | refine go_seq ?_ | refine go_region ?_ | refine go_skip ?_ | refine go_block ?_ | refine inb_normal ?_
    | (apply go_yes; (case hc => simp [hH, hW, hf, h, hl])) | (apply go_no; (case hc => simp [hH, hW, hf, h, hl]))
    | refine go_exit ?_ | refine next_exit ?_ | refine inb_here ?_ | refine inb_past (by decide) ?_ | refine go_ret ?_ | refine next_ret ?_ | refine inb_ret ?_))
      (apply ends_ok; (case h1 => simp; exact is_rfl); (case h2 => simp; exact is_rfl))
      simp [h, hk, hl]
  · (repeat (first
    | (apply is_ok; (case hw => simp [hH, h]); (case he => simp [hH, h]; exact is_rfl))
    | (apply op_no; (case hw => simp [hH, h]))
    | refine op_nil ?_ | refine next_normal ?_ | refine go_seq ?_ | refine go_region ?_ | refine go_skip ?_ | refine go_block ?_ | refine inb_normal ?_
    | (apply go_yes; (case hc => simp [hH, h])) | (apply go_no; (case hc => simp [hH, h]))
    | refine go_exit ?_ | refine next_exit ?_ | refine inb_here ?_ | refine inb_past (by decide) ?_ | refine go_ret ?_ | refine next_ret ?_ | refine inb_ret ?_))
    (apply ends_ok; (case h1 => simp; exact is_rfl); (case h2 => simp; exact is_rfl))
    simp [h]

abbrev wrV (w : Int × List UInt8) : V := .agg [.int .i64 w.1, .str w.2]
def faultI (n : Nat) (B : List Int) (w : Int × List UInt8) : Int := if 0 ≤ w.1 ∧ w.1 < n then if 128 < w.2.length then 7 else if w.1 ∈ B then 21 else 0 else 2

theorem fault_eq (S : List (List UInt8)) (B : List Int) (w : Int × List UInt8) : bodyW DC 54 [drv S B, wornV B, wrV w] [] = some (.int .i64 (faultI S.length B w), []) := by
  have hH := has_eq S B w.1
  have hf := findK_worn w.1 (.bool true) B
  unfold faultI
  (refine gives_iff ?_; refine go_func Tryd.f54 rfl rfl (by simp [Tryd.f54]) ?_; dsimp only [codeL, Tryd.f54, scL, sopsL, guardL, dstAt, loopKey])
  by_cases h : 0 ≤ w.1 ∧ w.1 < S.length
  · by_cases h2 : 128 < w.2.length
    · have e2 : (128 : Int) < w.2.length := by omega
      (repeat (first
    | (apply is_ok; (case hw => simp [hH, h, h2, e2]); (case he => simp [hH, h, h2, e2]; exact is_rfl))
    | (apply op_no; (case hw => simp [hH, h, h2, e2]))
    | refine op_nil ?_ | refine next_normal ?_ | refine go_seq ?_ | refine go_region ?_ | refine go_skip ?_ | refine go_block ?_ | refine inb_normal ?_
    | (apply go_yes; (case hc => simp [hH, h, h2, e2])) | (apply go_no; (case hc => simp [hH, h, h2, e2]))
    | refine go_exit ?_ | refine next_exit ?_ | refine inb_here ?_ | refine inb_past (by decide) ?_ | refine go_ret ?_ | refine next_ret ?_ | refine inb_ret ?_))
      (apply ends_ok; (case h1 => simp; exact is_rfl); (case h2 => simp; exact is_rfl))
      simp [h, h2]
    · have e2 : ¬ ((128 : Int) < w.2.length) := by omega
      by_cases hk : w.1 ∈ B
      · rw [if_pos hk] at hf
        (repeat (first
    | (apply is_ok; (case hw => simp [hH, h, h2, e2, hf]); (case he => simp [hH, h, h2, e2, hf]; exact is_rfl))
    | (apply op_no; (case hw => simp [hH, h, h2, e2, hf]))
    | refine op_nil ?_ | refine next_normal ?_ | refine go_seq ?_ | refine go_region ?_ | refine go_skip ?_ | refine go_block ?_ | refine inb_normal ?_
    | (apply go_yes; (case hc => simp [hH, h, h2, e2, hf])) | (apply go_no; (case hc => simp [hH, h, h2, e2, hf]))
    | refine go_exit ?_ | refine next_exit ?_ | refine inb_here ?_ | refine inb_past (by decide) ?_ | refine go_ret ?_ | refine next_ret ?_ | refine inb_ret ?_))
        (apply ends_ok; (case h1 => simp; exact is_rfl); (case h2 => simp; exact is_rfl))
        simp [h, h2, hk]
      · rw [if_neg hk] at hf
        (repeat (first
    | (apply is_ok; (case hw => simp [hH, h, h2, e2, hf]); (case he => simp [hH, h, h2, e2, hf]; exact is_rfl))
    | (apply op_no; (case hw => simp [hH, h, h2, e2, hf]))
    | refine op_nil ?_ | refine next_normal ?_ | refine go_seq ?_ | refine go_region ?_ | refine go_skip ?_ | refine go_block ?_ | refine inb_normal ?_
    | (apply go_yes; (case hc => simp [hH, h, h2, e2, hf])) | (apply go_no; (case hc => simp [hH, h, h2, e2, hf]))
    | refine go_exit ?_ | refine next_exit ?_ | refine inb_here ?_ | refine inb_past (by decide) ?_ | refine go_ret ?_ | refine next_ret ?_ | refine inb_ret ?_))
        (apply ends_ok; (case h1 => simp; exact is_rfl); (case h2 => simp; exact is_rfl))
        simp [h, h2, hk]
  · (repeat (first
    | (apply is_ok; (case hw => simp [hH, h]); (case he => simp [hH, h]; exact is_rfl))
    | (apply op_no; (case hw => simp [hH, h]))
    | refine op_nil ?_ | refine next_normal ?_ | refine go_seq ?_ | refine go_region ?_ | refine go_skip ?_ | refine go_block ?_ | refine inb_normal ?_
    | (apply go_yes; (case hc => simp [hH, h])) | (apply go_no; (case hc => simp [hH, h]))
    | refine go_exit ?_ | refine next_exit ?_ | refine inb_here ?_ | refine inb_past (by decide) ?_ | refine go_ret ?_ | refine next_ret ?_ | refine inb_ret ?_))
    (apply ends_ok; (case h1 => simp; exact is_rfl); (case h2 => simp; exact is_rfl))
    simp [h]

end Go.Abs

namespace Go.Abs
open Go.Proofs
set_option maxRecDepth 100000
set_option linter.unusedSimpArgs false

theorem copied_eq (S : List (List UInt8)) (B : List Int) (hS : S.length ≤ 1000000) (hB : B.length ≤ 1000000) : bodyW DC 53 [drv S B] [] = some (.agg [.own 0 S.length 0 S.length, .own 1 B.length 0 B.length], [.dat true 1 (strs S), .dat true 1 (ints B)]) := by
  have r1 : S.length * 16 ≤ room := by unfold room; omega
  have r2 : S.length ≤ room := by unfold room; omega
  have r3 : B.length * 8 ≤ room := by unfold room; omega
  have r4 : B.length ≤ room := by unfold room; omega
  (refine gives_iff ?_; refine go_func Tryd.f53 rfl rfl (by simp [Tryd.f53]) ?_; dsimp only [codeL, Tryd.f53, scL, sopsL, guardL, dstAt, loopKey])
  (repeat (first
    | (apply is_ok; (case hw => simp [cloneX, r1, r2, r3, r4]); (case he => simp [cloneX, r1, r2, r3, r4]; exact is_rfl))
    | (apply op_no; (case hw => simp [cloneX, r1, r2, r3, r4]))
    | refine op_nil ?_ | refine next_normal ?_ | refine go_seq ?_ | refine go_region ?_ | refine go_skip ?_ | refine go_block ?_ | refine inb_normal ?_
    | (apply go_yes; (case hc => simp [cloneX, r1, r2, r3, r4])) | (apply go_no; (case hc => simp [cloneX, r1, r2, r3, r4]))
    | refine go_exit ?_ | refine next_exit ?_ | refine inb_here ?_ | refine inb_past (by decide) ?_ | refine go_ret ?_ | refine next_ret ?_ | refine inb_ret ?_))
  (apply ends_ok; (case h1 => simp; exact is_rfl); (case h2 => simp; exact is_rfl))
  simp
end Go.Abs

namespace Go.Abs
open Go.Proofs
set_option maxRecDepth 100000
set_option linter.unusedSimpArgs false

def putS (S : List (List UInt8)) (w : Int × List UInt8) : List (List UInt8) := S.set w.1.toNat (w.2 ++ List.replicate (128 - w.2.length) 0)

theorem faultI_zero {n : Nat} {B : List Int} {w : Int × List UInt8} : faultI n B w = 0 ↔ (0 ≤ w.1 ∧ w.1 < n) ∧ w.2.length ≤ 128 ∧ w.1 ∉ B := by
  unfold faultI
  by_cases h : 0 ≤ w.1 ∧ w.1 < n
  · by_cases h2 : 128 < w.2.length
    · simp [h, h2]; omega
    · by_cases h3 : w.1 ∈ B
      · simp [h, h2, h3]
      · simp [h, h2, h3]; omega
  · simp [h]

theorem WriteR_ok (S : List (List UInt8)) (B : List Int) (hS : S.length ≤ 1000000) (hB : B.length ≤ maxLen) (w : Int × List UInt8) (h : faultI S.length B w = 0) :
    bodyW DC 31 [drv S B, .int .i64 w.1, .str w.2] [] = some (.tuple [.agg [.own 0 S.length 0 S.length, .sl (ints B)], .int .i64 0], [.dat true 1 (strs (putS S w))]) := by
  obtain ⟨⟨h1, h2⟩, h3, h4⟩ := faultI_zero.1 h
  have hI := Isbad_eq S B hB w.1
  have hZ := zeros_eq (128 - w.2.length) (by omega)
  have e1 : ¬ (w.1 < 0) := by omega
  have e2 : ¬ ((S.length : Int) ≤ w.1) := by omega
  have e3 : ¬ ((128 : Int) < w.2.length) := by omega
  have e4 : IntKind.i64.wrap (128 - (w.2.length : Int)) = ((128 - w.2.length : Nat) : Int) := by rw [wrap_id (by omega) (by omega)]; omega
  have r1 : S.length * 16 ≤ room := by unfold room; omega
  have r2 : S.length ≤ room := by unfold room; omega
  have r3 : w.2.length + (128 - w.2.length) ≤ room := by unfold room; omega
  have hl : w.1.toNat < S.length := by omega
  (refine gives_iff ?_; refine go_func Tryd.f31 rfl rfl (by simp [Tryd.f31]) ?_; dsimp only [codeL, Tryd.f31, scL, sopsL, guardL, dstAt, loopKey])
  (repeat (first
    | (apply is_ok; (case hw => simp [hI, hZ, e1, e2, e3, e4, r1, r2, r3, hl, h1, h2, h4]); (case he => simp [hI, hZ, e1, e2, e3, e4, r1, r2, r3, hl, h1, h2, h4]; exact is_rfl))
    | (apply op_no; (case hw => simp [hI, hZ, e1, e2, e3, e4, r1, r2, r3, hl, h1, h2, h4]))
    | refine op_nil ?_ | refine next_normal ?_ | refine go_seq ?_ | refine go_region ?_ | refine go_skip ?_ | refine go_block ?_ | refine inb_normal ?_
    | (apply go_yes; (case hc => simp [hI, hZ, e1, e2, e3, e4, r1, r2, r3, hl, h1, h2, h4])) | (apply go_no; (case hc => simp [hI, hZ, e1, e2, e3, e4, r1, r2, r3, hl, h1, h2, h4]))
    | refine go_exit ?_ | refine next_exit ?_ | refine inb_here ?_ | refine inb_past (by decide) ?_ | refine go_ret ?_ | refine next_ret ?_ | refine inb_ret ?_))
  (apply ends_ok; (case h1 => simp; exact is_rfl); (case h2 => simp; exact is_rfl))
  simp [putS, List.map_set]

theorem WriteR_no (S : List (List UInt8)) (B : List Int) (hB : B.length ≤ maxLen) (w : Int × List UInt8) (h : faultI S.length B w ≠ 0) :
    bodyW DC 31 [drv S B, .int .i64 w.1, .str w.2] [] = some (.tuple [.agg [.nils, .nils], .int .i64 (faultI S.length B w)], []) := by
  have hI := Isbad_eq S B hB w.1
  unfold faultI at h ⊢
  (refine gives_iff ?_; refine go_func Tryd.f31 rfl rfl (by simp [Tryd.f31]) ?_; dsimp only [codeL, Tryd.f31, scL, sopsL, guardL, dstAt, loopKey])
  by_cases h1 : w.1 < 0
  · (repeat (first
    | (apply is_ok; (case hw => simp [h1]); (case he => simp [h1]; exact is_rfl))
    | (apply op_no; (case hw => simp [h1]))
    | refine op_nil ?_ | refine next_normal ?_ | refine go_seq ?_ | refine go_region ?_ | refine go_skip ?_ | refine go_block ?_ | refine inb_normal ?_
    | (apply go_yes; (case hc => simp [h1])) | (apply go_no; (case hc => simp [h1]))
    | refine go_exit ?_ | refine next_exit ?_ | refine inb_here ?_ | refine inb_past (by decide) ?_ | refine go_ret ?_ | refine next_ret ?_ | refine inb_ret ?_))
    (apply ends_ok; (case h1 => simp; exact is_rfl); (case h2 => simp; exact is_rfl))
    have : ¬ (0 ≤ w.1) := by omega
    simp [this]
  by_cases h2 : (S.length : Int) ≤ w.1
  · (repeat (first
    | (apply is_ok; (case hw => simp [h1, h2]); (case he => simp [h1, h2]; exact is_rfl))
    | (apply op_no; (case hw => simp [h1, h2]))
    | refine op_nil ?_ | refine next_normal ?_ | refine go_seq ?_ | refine go_region ?_ | refine go_skip ?_ | refine go_block ?_ | refine inb_normal ?_
    | (apply go_yes; (case hc => simp [h1, h2])) | (apply go_no; (case hc => simp [h1, h2]))
    | refine go_exit ?_ | refine next_exit ?_ | refine inb_here ?_ | refine inb_past (by decide) ?_ | refine go_ret ?_ | refine next_ret ?_ | refine inb_ret ?_))
    (apply ends_ok; (case h1 => simp; exact is_rfl); (case h2 => simp; exact is_rfl))
    have : ¬ (w.1 < S.length) := by omega
    simp [this]
  have h0 : 0 ≤ w.1 := by omega
  have h0' : w.1 < S.length := by omega
  by_cases h3 : 128 < w.2.length
  · have e3 : ((128 : Int) < w.2.length) := by omega
    (repeat (first
    | (apply is_ok; (case hw => simp [h1, h2, h3, e3]); (case he => simp [h1, h2, h3, e3]; exact is_rfl))
    | (apply op_no; (case hw => simp [h1, h2, h3, e3]))
    | refine op_nil ?_ | refine next_normal ?_ | refine go_seq ?_ | refine go_region ?_ | refine go_skip ?_ | refine go_block ?_ | refine inb_normal ?_
    | (apply go_yes; (case hc => simp [h1, h2, h3, e3])) | (apply go_no; (case hc => simp [h1, h2, h3, e3]))
    | refine go_exit ?_ | refine next_exit ?_ | refine inb_here ?_ | refine inb_past (by decide) ?_ | refine go_ret ?_ | refine next_ret ?_ | refine inb_ret ?_))
    (apply ends_ok; (case h1 => simp; exact is_rfl); (case h2 => simp; exact is_rfl))
    simp [h0, h0', h3]
  have e3 : ¬ ((128 : Int) < w.2.length) := by omega
  by_cases h4 : w.1 ∈ B
  · (repeat (first
    | (apply is_ok; (case hw => simp [h1, h2, h3, e3, h4, hI]); (case he => simp [h1, h2, h3, e3, h4, hI]; exact is_rfl))
    | (apply op_no; (case hw => simp [h1, h2, h3, e3, h4, hI]))
    | refine op_nil ?_ | refine next_normal ?_ | refine go_seq ?_ | refine go_region ?_ | refine go_skip ?_ | refine go_block ?_ | refine inb_normal ?_
    | (apply go_yes; (case hc => simp [h1, h2, h3, e3, h4, hI])) | (apply go_no; (case hc => simp [h1, h2, h3, e3, h4, hI]))
    | refine go_exit ?_ | refine next_exit ?_ | refine inb_here ?_ | refine inb_past (by decide) ?_ | refine go_ret ?_ | refine next_ret ?_ | refine inb_ret ?_))
    (apply ends_ok; (case h1 => simp; exact is_rfl); (case h2 => simp; exact is_rfl))
    simp [h0, h0', h3, h4]
  · simp [h0, h0', h3, h4] at h

def applyS (B : List Int) (fuse : Int) : List (List UInt8) → Nat → List (Int × List UInt8) → List (List UInt8) × Nat × Int
  | S, i, [] => (S, i, 0)
  | S, i, w :: r => if (i : Int) = fuse then (S, i, 0) else if faultI S.length B w = 0 then applyS B fuse (putS S w) (i + 1) r else (S, i, faultI S.length B w)

theorem repeatL_zero (n : Nat) : Lib.repeatL [0] n = List.replicate n (0 : UInt8) := by
  induction n with
  | zero => rfl
  | succ n ih => show [0] ++ Lib.repeatL [0] n = _; rw [ih]; rfl

theorem Apply_eq (S : List (List UInt8)) (B : List Int) (hS : S.length ≤ 1000000) (hB : B.length ≤ 1000000) (l : List (Int × List UInt8)) (hl : l.length ≤ 1000000) (fuse : Int) :
    bodyW DC 35 [drv S B, .sl (l.map wrV), .int .i64 fuse] [] =
      some (.tuple [.agg [.own 0 S.length 0 S.length, .own 1 B.length 0 B.length], .int .i64 (applyS B fuse S 0 l).2.1, .int .i64 (applyS B fuse S 0 l).2.2], [.dat true 1 (strs (applyS B fuse S 0 l).1), .dat true 1 (ints B)]) := by
  have hC := copied_eq S B hS hB
  have hW := worn_eq S B (by unfold maxLen; omega)
  generalize hR : applyS B fuse S 0 l = R
  (refine gives_iff ?_; refine go_func Tryd.f35 rfl rfl (by simp [Tryd.f35]) ?_; dsimp only [codeL, Tryd.f35, scL, sopsL, guardL, dstAt, loopKey])
  (repeat (first
    | (apply is_ok; (case hw => simp [hC, hW]); (case he => simp [hC, hW]; exact is_rfl))
    | (apply op_no; (case hw => simp [hC, hW]))
    | refine op_nil ?_ | refine next_normal ?_ | refine go_seq ?_ | refine go_region ?_ | refine go_skip ?_ | refine go_block ?_ | refine inb_normal ?_
    | (apply go_yes; (case hc => simp [hC, hW])) | (apply go_no; (case hc => simp [hC, hW]))
    | refine go_exit ?_ | refine next_exit ?_ | refine inb_here ?_ | refine inb_past (by decide) ?_ | refine go_ret ?_ | refine next_ret ?_ | refine inb_ret ?_))
  refine go_while (σ := Nat × List (List UInt8)) (fun s => [(1, .sl (l.map wrV)), (2, .int .i64 fuse), (3, .ptr 0 1 0 0), (6, .ptr 3 1 0 0), (9, .map 6), (17, .sl (l.map wrV)), (18, .int .i64 l.length), (19, .int .i64 s.1)])
    (fun s => [.box (.agg [.own 1 S.length 0 S.length, .own 2 B.length 0 B.length]), .dat true 1 (strs s.2), .dat true 1 (ints B), .box (.agg [.own 4 0 0 0, .own 5 0 0 0]), .dat true 1 [], .dat true 1 [], .map true (ints (wornK B)) (List.replicate (wornK B).length (.bool true))])
    (fun s => s.1 ≤ l.length ∧ s.2.length = S.length ∧ applyS B fuse s.2 s.1 (l.drop s.1) = R) (fun s => l.length - s.1) (0, S) (by simp) (by simpa using hR) fun ⟨i, T⟩ ⟨hi, hT, hA⟩ => ?_
  simp only at hi hT hA ⊢
  by_cases hlt : i < l.length
  · have hw : IntKind.i64.wrap ((i : Int) + 1) = (i : Int) + 1 := wrap_id (by omega) (by omega)
    have hF := fault_eq T B l[i]
    rw [List.drop_eq_getElem_cons hlt, applyS] at hA
    by_cases hf : (i : Int) = fuse
    · subst hf
      rw [if_pos rfl] at hA
      (repeat (first
    | (apply is_ok; (case hw => simp [hlt]); (case he => simp [hlt]; exact is_rfl))
    | (apply op_no; (case hw => simp [hlt]))
    | refine op_nil ?_ | refine next_normal ?_ | refine go_seq ?_ | refine go_region ?_ | refine go_skip ?_ | refine go_block ?_ | refine inb_normal ?_
    | (apply go_yes; (case hc => simp [hlt])) | (apply go_no; (case hc => simp [hlt]))
    | refine go_exit ?_ | refine next_exit ?_ | refine inb_here ?_ | refine inb_past (by decide) ?_ | refine go_ret ?_ | refine next_ret ?_ | refine inb_ret ?_))
      (apply ends_ok; (case h1 => simp; exact is_rfl); (case h2 => simp; exact is_rfl))
      simp [← hA, hT]
    · rw [if_neg hf] at hA
      by_cases hz : faultI T.length B l[i] = 0
      · rw [if_pos hz] at hA
        obtain ⟨⟨h1, h2⟩, h3, h4⟩ := faultI_zero.1 hz
        have e4 : IntKind.i64.wrap (128 - (l[i].2.length : Int)) = ((128 - l[i].2.length : Nat) : Int) := by rw [wrap_id (by omega) (by omega)]; omega
        have e5 : 128 - l[i].2.length ≤ 140737488355328 := by omega
        have e6 : ((128 - l[i].2.length : Nat) : Int) ≤ 9223372036854775807 := by omega
        have r3 : l[i].2.length + (128 - l[i].2.length) ≤ room := by unfold room; omega
        have hl' : l[i].1.toNat < T.length := by omega
        have hl'' : l[i].1.toNat < S.length := by omega
        have hl3 : l[i].1 < S.length := by omega
        rw [hT] at hz
        rw [hT] at hF
        (repeat (first
    | (apply is_ok; (case hw => simp [hlt, hf, hF, hz, e4, e5, e6, r3, hl', hl'', hl3, hT, h1, repeatX, repeatL_zero]); (case he => simp [hlt, hf, hF, hz, e4, e5, e6, r3, hl', hl'', hl3, hT, h1, repeatX, repeatL_zero]; exact is_rfl))
    | (apply op_no; (case hw => simp [hlt, hf, hF, hz, e4, e5, e6, r3, hl', hl'', hl3, hT, h1, repeatX, repeatL_zero]))
    | refine op_nil ?_ | refine next_normal ?_ | refine go_seq ?_ | refine go_region ?_ | refine go_skip ?_ | refine go_block ?_ | refine inb_normal ?_
    | (apply go_yes; (case hc => simp [hlt, hf, hF, hz, e4, e5, e6, r3, hl', hl'', hl3, hT, h1, repeatX, repeatL_zero])) | (apply go_no; (case hc => simp [hlt, hf, hF, hz, e4, e5, e6, r3, hl', hl'', hl3, hT, h1, repeatX, repeatL_zero]))
    | refine go_exit ?_ | refine next_exit ?_ | refine inb_here ?_ | refine inb_past (by decide) ?_ | refine go_ret ?_ | refine next_ret ?_ | refine inb_ret ?_))
        refine ⟨(i + 1, putS T l[i]), by simp [hw, putS, List.map_set], by show l.length - (i + 1) < l.length - i; omega, by show i + 1 ≤ l.length; omega, by simpa [putS] using hT, hA⟩
      · rw [if_neg hz] at hA
        rw [hT] at hz hF hA
        (repeat (first
    | (apply is_ok; (case hw => simp [hlt, hf, hF, hz, hT]); (case he => simp [hlt, hf, hF, hz, hT]; exact is_rfl))
    | (apply op_no; (case hw => simp [hlt, hf, hF, hz, hT]))
    | refine op_nil ?_ | refine next_normal ?_ | refine go_seq ?_ | refine go_region ?_ | refine go_skip ?_ | refine go_block ?_ | refine inb_normal ?_
    | (apply go_yes; (case hc => simp [hlt, hf, hF, hz, hT])) | (apply go_no; (case hc => simp [hlt, hf, hF, hz, hT]))
    | refine go_exit ?_ | refine next_exit ?_ | refine inb_here ?_ | refine inb_past (by decide) ?_ | refine go_ret ?_ | refine next_ret ?_ | refine inb_ret ?_))
        (apply ends_ok; (case h1 => simp; exact is_rfl); (case h2 => simp; exact is_rfl))
        simp [← hA, hT]
  · (repeat (first
    | (apply is_ok; (case hw => simp [hlt]); (case he => simp [hlt]; exact is_rfl))
    | (apply op_no; (case hw => simp [hlt]))
    | refine op_nil ?_ | refine next_normal ?_ | refine go_seq ?_ | refine go_region ?_ | refine go_skip ?_ | refine go_block ?_ | refine inb_normal ?_
    | (apply go_yes; (case hc => simp [hlt])) | (apply go_no; (case hc => simp [hlt]))
    | refine go_exit ?_ | refine next_exit ?_ | refine inb_here ?_ | refine inb_past (by decide) ?_ | refine go_ret ?_ | refine next_ret ?_ | refine inb_ret ?_))
    (apply ends_ok; (case h1 => simp; exact is_rfl); (case h2 => simp; exact is_rfl))
    have : i = l.length := by omega
    rw [this, List.drop_length, applyS] at hA
    simp [← hA, hT, this]

end Go.Abs

namespace Go.Abs
open Go.Proofs
set_option maxRecDepth 100000
set_option linter.unusedSimpArgs false
set_option linter.unusedVariables false

theorem u8s_append (a b : List UInt8) : u8s (a ++ b) = u8s a ++ u8s b := by simp [u8s]
@[simp] theorem u8s_length (a : List UInt8) : (u8s a).length = a.length := by simp [u8s]
/-- A text filled with zeros. -/
def padS (s : List UInt8) : List UInt8 := s ++ List.replicate (128 - s.length) 0
theorem padS_length {s : List UInt8} (h : s.length ≤ 128) : (padS s).length = 128 := by simp [padS]; omega

theorem padded_eq (s : List UInt8) (h : s.length ≤ 128) : bodyW DC 30 [.str s] [] = some (.str (padS s), []) := by
  have e4 : IntKind.i64.wrap (128 - (s.length : Int)) = ((128 - s.length : Nat) : Int) := by rw [wrap_id (by omega) (by omega)]; omega
  have e5 : 128 - s.length ≤ 140737488355328 := by omega
  have e6 : ((128 - s.length : Nat) : Int) ≤ 9223372036854775807 := by omega
  have r3 : s.length + (128 - s.length) ≤ room := by unfold room; omega
  (refine gives_iff ?_; refine go_func Tryd.f30 rfl rfl (by simp [Tryd.f30]) ?_; dsimp only [codeL, Tryd.f30, scL, sopsL, guardL, dstAt, loopKey])
  (repeat (first
    | (apply is_ok; (case hw => simp [e4, e5, e6, r3, repeatX, repeatL_zero]); (case he => simp [e4, e5, e6, r3, repeatX, repeatL_zero]; exact is_rfl))
    | (apply op_no; (case hw => simp [e4, e5, e6, r3, repeatX, repeatL_zero]))
    | refine op_nil ?_ | refine next_normal ?_ | refine go_seq ?_ | refine go_region ?_ | refine go_skip ?_ | refine go_block ?_ | refine inb_normal ?_
    | (apply go_yes; (case hc => simp [e4, e5, e6, r3, repeatX, repeatL_zero])) | (apply go_no; (case hc => simp [e4, e5, e6, r3, repeatX, repeatL_zero]))
    | refine go_exit ?_ | refine next_exit ?_ | refine inb_here ?_ | refine inb_past (by decide) ?_ | refine go_ret ?_ | refine next_ret ?_ | refine inb_ret ?_))
  (apply ends_ok; (case h1 => simp; exact is_rfl); (case h2 => simp; exact is_rfl))
  simp [padS]

theorem zeros37_eq (s : List UInt8) (h : s.length ≤ 128) : bodyW DC 27 [.str s] [] = some (.str (padS s), []) := by
  have r0 : s.length ≤ room := by unfold room; omega
  (refine gives_iff ?_; refine go_func Tryd.f27 rfl rfl (by simp [Tryd.f27]) ?_; dsimp only [codeL, Tryd.f27, scL, sopsL, guardL, dstAt, loopKey])
  (repeat (first
    | (apply is_ok; (case hw => simp [r0]); (case he => simp [r0]; exact is_rfl))
    | (apply op_no; (case hw => simp [r0]))
    | refine op_nil ?_ | refine next_normal ?_ | refine go_seq ?_ | refine go_region ?_ | refine go_skip ?_ | refine go_block ?_ | refine inb_normal ?_
    | (apply go_yes; (case hc => simp [r0])) | (apply go_no; (case hc => simp [r0]))
    | refine go_exit ?_ | refine next_exit ?_ | refine inb_here ?_ | refine inb_past (by decide) ?_ | refine go_ret ?_ | refine next_ret ?_ | refine inb_ret ?_))
  refine go_count (128 - s.length) (fun i => [(3, .own 0 (s.length + i) 0 (s.length + i))]) (fun i => [.dat true 1 (u8s (s ++ List.replicate i 0))]) (fun _ => True) (by simp) trivial fun i hi _ => ?_
  have hl : (s ++ List.replicate i (0 : UInt8)).length = s.length + i := by simp
  have ha : u8s (s ++ List.replicate (i + 1) 0) = u8s (s ++ List.replicate i 0) ++ [.int .u8 0] := by
    rw [List.replicate_succ', ← List.append_assoc, u8s_append _ [0]]; rfl
  have hq : i = 128 - s.length → s ++ List.replicate i (0 : UInt8) = padS s := fun h => by rw [h]; rfl
  generalize s ++ List.replicate i (0 : UInt8) = t at hl ha hq
  generalize hn : s.length + i = n at hl
  have r1 : n + 1 ≤ room := by unfold room; omega
  by_cases hlt : n < 128
  · have hlt' : (n : Int) < 128 := by omega
    (repeat (first
    | (apply is_ok; (case hw => simp [hl, hlt, hlt', r1]); (case he => simp [hl, hlt, hlt', r1]; exact is_rfl))
    | (apply op_no; (case hw => simp [hl, hlt, hlt', r1]))
    | refine op_nil ?_ | refine next_normal ?_ | refine go_seq ?_ | refine go_region ?_ | refine go_skip ?_ | refine go_block ?_ | refine inb_normal ?_
    | (apply go_yes; (case hc => simp [hl, hlt, hlt', r1])) | (apply go_no; (case hc => simp [hl, hlt, hlt', r1]))
    | refine go_exit ?_ | refine next_exit ?_ | refine inb_here ?_ | refine inb_past (by decide) ?_ | refine go_ret ?_ | refine next_ret ?_ | refine inb_ret ?_))
    exact ⟨by omega, by simp [ha, ← hn, Nat.add_assoc], trivial⟩
  · have hlt' : ¬ ((n : Int) < 128) := by omega
    (repeat (first
    | (apply is_ok; (case hw => simp [hl, hlt, hlt']); (case he => simp [hl, hlt, hlt']; exact is_rfl))
    | (apply op_no; (case hw => simp [hl, hlt, hlt']))
    | refine op_nil ?_ | refine next_normal ?_ | refine go_seq ?_ | refine go_region ?_ | refine go_skip ?_ | refine go_block ?_ | refine inb_normal ?_
    | (apply go_yes; (case hc => simp [hl, hlt, hlt'])) | (apply go_no; (case hc => simp [hl, hlt, hlt']))
    | refine go_exit ?_ | refine next_exit ?_ | refine inb_here ?_ | refine inb_past (by decide) ?_ | refine go_ret ?_ | refine next_ret ?_ | refine inb_ret ?_))
    (apply ends_ok; (case h1 => simp; exact is_rfl); (case h2 => simp; exact is_rfl))
    simp [hq (by omega)]

theorem Get_eq (s : List UInt8) (i : Nat) (h : i + 2 ≤ s.length) (hs : s.length ≤ 1000000) :
    bodyW DC 40 [.str s, .int .i64 i, .int .i64 2] [] = some (.tuple [.int .i64 (word (s[i]'(by omega)) (s[i + 1]'(by omega))), .int .i64 ((i : Int) + 2), .int .i64 0], []) := by
  have h0 : i < s.length := by omega
  have h1 : i + 1 < s.length := by omega
  generalize hx : s[i]'h0 = x
  generalize hy : s[i + 1]'h1 = y
  have g0 : s[i]? = some x := by rw [List.getElem?_eq_getElem h0, hx]
  have g1 : s[i + 1]? = some y := by rw [List.getElem?_eq_getElem h1, hy]
  have bx := x.toNat_lt
  have by_ := y.toNat_lt
  have a1 : IntKind.i64.wrap ((i : Int) + 2) = i + 2 := wrap_id (by omega) (by omega)
  have a3 : IntKind.i64.wrap ((i : Int) + 1) = i + 1 := wrap_id (by omega) (by omega)
  have a4 : IntKind.i64.wrap (i : Int) = i := wrap_id (by omega) (by omega)
  have a6 : IntKind.i64.wrap ((s.length : Int) - i) = s.length - i := wrap_id (by omega) (by omega)
  have a7 : ¬ ((s.length : Int) - i < 2) := by omega
  have a8 : ¬ ((s.length : Int) < i) := by omega
  have a8' : ¬ (s.length < i) := by omega
  have a9 : ((i : Int) + 1).toNat = i + 1 := by omega
  have c1 : (0 : Int) ≤ (i : Int) + 1 := by omega
  have d1 : IntKind.i64.wrap ((y.toNat : Int) * 256) = y.toNat * 256 := wrap_byte256 y
  have d2 : intOp .or .i64 0 (y.toNat : Int) = some (.int .i64 y.toNat) := by
    show some (V.int .i64 (IntKind.i64.wrap ((BitVec.ofInt 64 0 ||| BitVec.ofInt 64 (y.toNat : Int)).toNat : Int))) = _
    rw [show BitVec.ofInt 64 0 = 0#64 from rfl, BitVec.zero_or, BitVec.toNat_ofInt]
    have e1 : ((y.toNat : Int) % (2 ^ 64 : Nat)).toNat = y.toNat := by omega
    rw [e1, wrap_byte]
  have d4 : intOp .or .i64 ((y.toNat : Int) * 256) (x.toNat : Int) = some (.int .i64 (word x y)) := by
    rw [← or_bytes x y]
    show some (V.int .i64 (IntKind.i64.wrap ((BitVec.ofInt 64 ((y.toNat : Int) * 256) ||| BitVec.ofInt 64 (x.toNat : Int)).toNat : Int))) = some (V.int .i64 (IntKind.i64.wrap ((BitVec.ofInt 64 (x.toNat : Int) ||| BitVec.ofInt 64 ((y.toNat : Int) * 256)).toNat : Int)))
    rw [BitVec.or_comm]
  have d3 : ¬ ((i : Int) < 0) := by omega
  (refine gives_iff ?_; refine go_func Tryd.f40 rfl rfl (by simp [Tryd.f40]) ?_; dsimp only [codeL, Tryd.f40, scL, sopsL, guardL, dstAt, loopKey])
  (repeat (first
    | (apply is_ok; (case hw => simp [-intOp, a1, a3, a4, a6, a7, a8, a8', a9, c1, d1, d2, d3, d4, g0, g1, h0, h1, hx, hy]); (case he => simp [-intOp, a1, a3, a4, a6, a7, a8, a8', a9, c1, d1, d2, d3, d4, g0, g1, h0, h1, hx, hy]; exact is_rfl))
    | (apply op_no; (case hw => simp [-intOp, a1, a3, a4, a6, a7, a8, a8', a9, c1, d1, d2, d3, d4, g0, g1, h0, h1, hx, hy]))
    | refine op_nil ?_ | refine next_normal ?_ | refine go_seq ?_ | refine go_region ?_ | refine go_skip ?_ | refine go_block ?_ | refine inb_normal ?_
    | (apply go_yes; (case hc => simp [-intOp, a1, a3, a4, a6, a7, a8, a8', a9, c1, d1, d2, d3, d4, g0, g1, h0, h1, hx, hy])) | (apply go_no; (case hc => simp [-intOp, a1, a3, a4, a6, a7, a8, a8', a9, c1, d1, d2, d3, d4, g0, g1, h0, h1, hx, hy]))
    | refine go_exit ?_ | refine next_exit ?_ | refine inb_here ?_ | refine inb_past (by decide) ?_ | refine go_ret ?_ | refine next_ret ?_ | refine inb_ret ?_
    | (apply go_unroll; (case hh => simp [-intOp, a1, a3, a4, a6, a7, a8, a8', a9, c1, d1, d2, d3, d4, g0, g1, h0, h1, hx, hy]; exact is_rfl))))
  (apply ends_ok; (case h1 => simp; exact is_rfl); (case h2 => simp; exact is_rfl))
  simp

theorem fits_eq (n w : Int) (h : 0 ≤ n ∧ n ≤ 1000000) : bodyW DC 33 [.int .i64 n, .int .i64 w] [] = some (.bool (decide (32 ≤ n ∧ n ≤ 256 ∧ 0 ≤ w ∧ w ≤ n - 32)), []) := by
  have e : IntKind.i64.wrap (n - 32) = n - 32 := wrap_id (by omega) (by omega)
  by_cases h1 : 32 ≤ n
  · by_cases h2 : n ≤ 256
    · by_cases h3 : 0 ≤ w
      · (refine gives_iff ?_; refine go_func Tryd.f33 rfl rfl (by simp [Tryd.f33]) ?_; dsimp only [codeL, Tryd.f33, scL, sopsL, guardL, dstAt, loopKey])
        (repeat (first
    | (apply is_ok; (case hw => simp [e, h1, h2, h3]); (case he => simp [e, h1, h2, h3]; exact is_rfl))
    | (apply op_no; (case hw => simp [e, h1, h2, h3]))
    | refine op_nil ?_ | refine next_normal ?_ | refine go_seq ?_ | refine go_region ?_ | refine go_skip ?_ | refine go_block ?_ | refine inb_normal ?_
    | (apply go_yes; (case hc => simp [e, h1, h2, h3])) | (apply go_no; (case hc => simp [e, h1, h2, h3]))
    | refine go_exit ?_ | refine next_exit ?_ | refine inb_here ?_ | refine inb_past (by decide) ?_ | refine go_ret ?_ | refine next_ret ?_ | refine inb_ret ?_))
        (apply ends_ok; (case h1 => simp; exact is_rfl); (case h2 => simp; exact is_rfl))
        simp [h1, h2, h3]
      · (refine gives_iff ?_; refine go_func Tryd.f33 rfl rfl (by simp [Tryd.f33]) ?_; dsimp only [codeL, Tryd.f33, scL, sopsL, guardL, dstAt, loopKey])
        (repeat (first
    | (apply is_ok; (case hw => simp [e, h1, h2, h3]); (case he => simp [e, h1, h2, h3]; exact is_rfl))
    | (apply op_no; (case hw => simp [e, h1, h2, h3]))
    | refine op_nil ?_ | refine next_normal ?_ | refine go_seq ?_ | refine go_region ?_ | refine go_skip ?_ | refine go_block ?_ | refine inb_normal ?_
    | (apply go_yes; (case hc => simp [e, h1, h2, h3])) | (apply go_no; (case hc => simp [e, h1, h2, h3]))
    | refine go_exit ?_ | refine next_exit ?_ | refine inb_here ?_ | refine inb_past (by decide) ?_ | refine go_ret ?_ | refine next_ret ?_ | refine inb_ret ?_))
        (apply ends_ok; (case h1 => simp; exact is_rfl); (case h2 => simp; exact is_rfl))
        simp [h1, h2, h3]
    · (refine gives_iff ?_; refine go_func Tryd.f33 rfl rfl (by simp [Tryd.f33]) ?_; dsimp only [codeL, Tryd.f33, scL, sopsL, guardL, dstAt, loopKey])
      (repeat (first
    | (apply is_ok; (case hw => simp [e, h1, h2]); (case he => simp [e, h1, h2]; exact is_rfl))
    | (apply op_no; (case hw => simp [e, h1, h2]))
    | refine op_nil ?_ | refine next_normal ?_ | refine go_seq ?_ | refine go_region ?_ | refine go_skip ?_ | refine go_block ?_ | refine inb_normal ?_
    | (apply go_yes; (case hc => simp [e, h1, h2])) | (apply go_no; (case hc => simp [e, h1, h2]))
    | refine go_exit ?_ | refine next_exit ?_ | refine inb_here ?_ | refine inb_past (by decide) ?_ | refine go_ret ?_ | refine next_ret ?_ | refine inb_ret ?_))
      (apply ends_ok; (case h1 => simp; exact is_rfl); (case h2 => simp; exact is_rfl))
      simp [h1, h2]
  · (refine gives_iff ?_; refine go_func Tryd.f33 rfl rfl (by simp [Tryd.f33]) ?_; dsimp only [codeL, Tryd.f33, scL, sopsL, guardL, dstAt, loopKey])
    (repeat (first
    | (apply is_ok; (case hw => simp [e, h1]); (case he => simp [e, h1]; exact is_rfl))
    | (apply op_no; (case hw => simp [e, h1]))
    | refine op_nil ?_ | refine next_normal ?_ | refine go_seq ?_ | refine go_region ?_ | refine go_skip ?_ | refine go_block ?_ | refine inb_normal ?_
    | (apply go_yes; (case hc => simp [e, h1])) | (apply go_no; (case hc => simp [e, h1]))
    | refine go_exit ?_ | refine next_exit ?_ | refine inb_here ?_ | refine inb_past (by decide) ?_ | refine go_ret ?_ | refine next_ret ?_ | refine inb_ret ?_))
    (apply ends_ok; (case h1 => simp; exact is_rfl); (case h2 => simp; exact is_rfl))
    simp [h1]

def superS (n w : Int) : List UInt8 := padS ([69, 77, 86, 49] ++ (put2 n ++ put2 w))
theorem super_eq (n w : Int) (hn : n ≤ 9223372036854775807) (hw : w ≤ 9223372036854775807) : bodyW DC 36 [.int .i64 n, .int .i64 w] [] = some (.str (superS n w), []) := by
  have hp := padded_eq ([69, 77, 86, 49] ++ (put2 n ++ put2 w)) (by simp)
  have p1 := Put_eq n hn
  have p2 := Put_eq w hw
  unfold superS
  simp only [List.cons_append, List.nil_append] at hp ⊢
  (refine gives_iff ?_; refine go_func Tryd.f36 rfl rfl (by simp [Tryd.f36]) ?_; dsimp only [codeL, Tryd.f36, scL, sopsL, guardL, dstAt, loopKey])
  (repeat (first
    | (apply is_ok; (case hw => simp [p1, p2, hp, room]); (case he => simp [p1, p2, hp, room]; exact is_rfl))
    | (apply op_no; (case hw => simp [p1, p2, hp, room]))
    | refine op_nil ?_ | refine next_normal ?_ | refine go_seq ?_ | refine go_region ?_ | refine go_skip ?_ | refine go_block ?_ | refine inb_normal ?_
    | (apply go_yes; (case hc => simp [p1, p2, hp, room])) | (apply go_no; (case hc => simp [p1, p2, hp, room]))
    | refine go_exit ?_ | refine next_exit ?_ | refine inb_here ?_ | refine inb_past (by decide) ?_ | refine go_ret ?_ | refine next_ret ?_ | refine inb_ret ?_))
  (apply ends_ok; (case h1 => simp; exact is_rfl); (case h2 => simp; exact is_rfl))
  simp
theorem head_eq (n w : Int) (hn : n ≤ 9223372036854775807) (hw : w ≤ 9223372036854775807) : bodyW DC 46 [.int .i64 n, .int .i64 w] [] = some (.str (superS n w), []) := by
  have hp := zeros37_eq ([69, 77, 86, 49] ++ (put2 n ++ put2 w)) (by simp)
  have p1 := PutR_eq n hn
  have p2 := PutR_eq w hw
  unfold superS
  simp only [List.cons_append, List.nil_append] at hp ⊢
  (refine gives_iff ?_; refine go_func Tryd.f46 rfl rfl (by simp [Tryd.f46]) ?_; dsimp only [codeL, Tryd.f46, scL, sopsL, guardL, dstAt, loopKey])
  (repeat (first
    | (apply is_ok; (case hw => simp [p1, p2, hp, room]); (case he => simp [p1, p2, hp, room]; exact is_rfl))
    | (apply op_no; (case hw => simp [p1, p2, hp, room]))
    | refine op_nil ?_ | refine next_normal ?_ | refine go_seq ?_ | refine go_region ?_ | refine go_skip ?_ | refine go_block ?_ | refine inb_normal ?_
    | (apply go_yes; (case hc => simp [p1, p2, hp, room])) | (apply go_no; (case hc => simp [p1, p2, hp, room]))
    | refine go_exit ?_ | refine next_exit ?_ | refine inb_here ?_ | refine inb_past (by decide) ?_ | refine go_ret ?_ | refine next_ret ?_ | refine inb_ret ?_))
  (apply ends_ok; (case h1 => simp; exact is_rfl); (case h2 => simp; exact is_rfl))
  simp

theorem bad_eq (S : List (List UInt8)) (B : List Int) (hB : B.length ≤ maxLen) (k : Int) : bodyW DC 25 [drv S B, .int .i64 k] [] = some (.bool (decide (k ∈ B)), []) := by
  unfold maxLen at hB
  (refine gives_iff ?_; refine go_func Tryd.f25 rfl rfl (by simp [Tryd.f25]) ?_; dsimp only [codeL, Tryd.f25, scL, sopsL, guardL, dstAt, loopKey])
  (repeat (first
    | (apply is_ok; (case hw => simp); (case he => simp; exact is_rfl))
    | (apply op_no; (case hw => simp))
    | refine op_nil ?_ | refine next_normal ?_ | refine go_seq ?_ | refine go_region ?_ | refine go_skip ?_ | refine go_block ?_ | refine inb_normal ?_
    | (apply go_yes; (case hc => simp)) | (apply go_no; (case hc => simp))
    | refine go_exit ?_ | refine next_exit ?_ | refine inb_here ?_ | refine inb_past (by decide) ?_ | refine go_ret ?_ | refine next_ret ?_ | refine inb_ret ?_))
  refine go_count B.length (fun i => [(1, .int .i64 k), (2, .ptr 0 1 0 0), (5, .int .i64 i)]) (fun _ => [.box (drv S B)]) (fun i => ∀ j (hj : j < B.length), j < i → B[j] ≠ k) (by simp) (by simp) fun i hi hI => ?_
  by_cases hlt : i < B.length
  · have hw : IntKind.i64.wrap ((i : Int) + 1) = (i : Int) + 1 := wrap_id (by omega) (by omega)
    by_cases h3 : B[i] = k
    · (repeat (first
    | (apply is_ok; (case hw => simp [hlt, h3]); (case he => simp [hlt, h3]; exact is_rfl))
    | (apply op_no; (case hw => simp [hlt, h3]))
    | refine op_nil ?_ | refine next_normal ?_ | refine go_seq ?_ | refine go_region ?_ | refine go_skip ?_ | refine go_block ?_ | refine inb_normal ?_
    | (apply go_yes; (case hc => simp [hlt, h3])) | (apply go_no; (case hc => simp [hlt, h3]))
    | refine go_exit ?_ | refine next_exit ?_ | refine inb_here ?_ | refine inb_past (by decide) ?_ | refine go_ret ?_ | refine next_ret ?_ | refine inb_ret ?_))
      (apply ends_ok; (case h1 => simp; exact is_rfl); (case h2 => simp; exact is_rfl))
      have : k ∈ B := h3 ▸ List.getElem_mem hlt
      simp [this]
    · (repeat (first
    | (apply is_ok; (case hw => simp [hlt, h3]); (case he => simp [hlt, h3]; exact is_rfl))
    | (apply op_no; (case hw => simp [hlt, h3]))
    | refine op_nil ?_ | refine next_normal ?_ | refine go_seq ?_ | refine go_region ?_ | refine go_skip ?_ | refine go_block ?_ | refine inb_normal ?_
    | (apply go_yes; (case hc => simp [hlt, h3])) | (apply go_no; (case hc => simp [hlt, h3]))
    | refine go_exit ?_ | refine next_exit ?_ | refine inb_here ?_ | refine inb_past (by decide) ?_ | refine go_ret ?_ | refine next_ret ?_ | refine inb_ret ?_))
      exact ⟨hlt, by simp [hw], fun j hj hji => by
        by_cases hje : j = i
        · subst hje; exact h3
        · exact hI j hj (by omega)⟩
  · (repeat (first
    | (apply is_ok; (case hw => simp [hlt]); (case he => simp [hlt]; exact is_rfl))
    | (apply op_no; (case hw => simp [hlt]))
    | refine op_nil ?_ | refine next_normal ?_ | refine go_seq ?_ | refine go_region ?_ | refine go_skip ?_ | refine go_block ?_ | refine inb_normal ?_
    | (apply go_yes; (case hc => simp [hlt])) | (apply go_no; (case hc => simp [hlt]))
    | refine go_exit ?_ | refine next_exit ?_ | refine inb_here ?_ | refine inb_past (by decide) ?_ | refine go_ret ?_ | refine next_ret ?_ | refine inb_ret ?_))
    (apply ends_ok; (case h1 => simp; exact is_rfl); (case h2 => simp; exact is_rfl))
    have : k ∉ B := fun h => by
      obtain ⟨j, hj, h⟩ := List.getElem_of_mem h
      exact hI j hj (by omega) h
    simp [this]
end Go.Abs

