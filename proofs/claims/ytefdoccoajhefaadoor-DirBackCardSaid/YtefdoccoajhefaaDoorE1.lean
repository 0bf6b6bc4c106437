/- Proved here: what functions of the program compute, over the evaluator. No condition but those that each theorem states. -/
import Derived.Test.YtefdoccoajhefaaDoorTF
namespace Go.Abs
open Go.Proofs
set_option maxRecDepth 100000
set_option linter.unusedSimpArgs false
set_option linter.unusedVariables false

theorem refsL_none {l : List V} (h : ∀ x ∈ l, refs x = []) : refsL l = [] := by
  induction l with
  | nil => rfl
  | cons x l ih => rw [refsL_cons, h x (List.mem_cons_self ..), ih fun y hy => h y (List.mem_cons_of_mem _ hy)]; rfl
theorem renL_same {ρ : Nat → Option Nat} {l : List V} (h : ∀ x ∈ l, ren ρ x = x) : renL ρ l = l := by
  induction l with
  | nil => rfl
  | cons x l ih => rw [renL_cons, h x (List.mem_cons_self ..), ih fun y hy => h y (List.mem_cons_of_mem _ hy)]
@[simp] theorem refsL_ints (k : IntKind) (L : List Int) : refsL (L.map (V.int k)) = [] := refsL_none fun x hx => by obtain ⟨a, _, rfl⟩ := List.mem_map.1 hx; rfl
@[simp] theorem refsL_strs (L : List (List UInt8)) : refsL (L.map V.str) = [] := refsL_none fun x hx => by obtain ⟨a, _, rfl⟩ := List.mem_map.1 hx; rfl
@[simp] theorem refsL_ints_take (n : Nat) (k : IntKind) (L : List Int) : refsL ((L.map (V.int k)).take n) = [] := refsL_none fun x hx => by obtain ⟨a, _, rfl⟩ := List.mem_map.1 (List.mem_of_mem_take hx); rfl
@[simp] theorem renL_ints (ρ : Nat → Option Nat) (k : IntKind) (L : List Int) : renL ρ (L.map (V.int k)) = L.map (V.int k) := renL_same fun x hx => by obtain ⟨a, _, rfl⟩ := List.mem_map.1 hx; rfl
@[simp] theorem renL_strs (ρ : Nat → Option Nat) (L : List (List UInt8)) : renL ρ (L.map V.str) = L.map V.str := renL_same fun x hx => by obtain ⟨a, _, rfl⟩ := List.mem_map.1 hx; rfl

/-- A whole number as two bytes. -/
def put2 (n : Int) : List UInt8 := [UInt8.ofNat (n.toNat % 256), UInt8.ofNat (n.toNat / 256 % 256)]
theorem wrap_u8_nat (x : Nat) : IntKind.u8.wrap (x : Int) = ((x % 256 : Nat) : Int) := by simp [IntKind.wrap, IntKind.bits, IntKind.signed]
theorem fdiv_nat (a b : Nat) : (a : Int).fdiv (b : Int) = ((a / b : Nat) : Int) := by rw [Int.fdiv_eq_ediv_of_nonneg _ (by omega)]; rfl

@[simp] theorem ofVal_int (k : IntKind) (n : Int) : ofVal (.int k n) = .int k n := rfl
@[simp] theorem ofVal_bool (b : Bool) : ofVal (.bool b) = .bool b := rfl
@[simp] theorem ofVal_str (s : ByteArray) : ofVal (.string s) = .str s.data.toList := rfl

@[simp] theorem wrap_lit {x : Int} (h : -9223372036854775808 ≤ x) (h' : x ≤ 9223372036854775807) : IntKind.i64.wrap x = x := wrap_id h h'
@[simp] theorem bits_i64 : IntKind.i64.bits = 64 := rfl
@[simp] theorem bits_u8 : IntKind.u8.bits = 8 := rfl
@[simp] theorem bits_u64 : IntKind.u64.bits = 64 := rfl

theorem Put_eq (n : Int) (hn : n ≤ 9223372036854775807) : bodyW DC 29 [.int .i64 n, .int .i64 2] [] = some (.str (put2 n), []) := by
  have e0 : max 0 (min 2 8) = (2 : Int) := by decide
  have hm : max n 0 = (n.toNat : Int) := by omega
  unfold put2
  generalize n.toNat = m at hm
  have f1 : (m : Int).fdiv 1 = ((m / 1 : Nat) : Int) := fdiv_nat m 1
  have f2 : (m : Int).fdiv 256 = ((m / 256 : Nat) : Int) := fdiv_nat m 256
  have w1 := wrap_u8_nat m
  have w2 := wrap_u8_nat (m / 256)
  (refine gives_iff ?_; refine go_func Tryd.f29 rfl rfl (by simp [Tryd.f29]) ?_; dsimp only [codeL, Tryd.f29, scL, sopsL, guardL, dstAt, loopKey])
  (repeat (first
    | (apply is_ok; (case hw => simp [hm, e0, f1, f2, w1, w2]); (case he => simp [hm, e0, f1, f2, w1, w2]; exact is_rfl))
    | (apply op_no; (case hw => simp [hm, e0, f1, f2, w1, w2]))
    | refine op_nil ?_ | refine next_normal ?_ | refine go_seq ?_ | refine go_region ?_ | refine go_skip ?_ | refine go_block ?_ | refine inb_normal ?_
    | (apply go_yes; (case hc => simp [hm, e0, f1, f2, w1, w2])) | (apply go_no; (case hc => simp [hm, e0, f1, f2, w1, w2]))
    | refine go_exit ?_ | refine next_exit ?_ | refine inb_here ?_ | refine inb_past (by decide) ?_ | refine go_ret ?_ | refine next_ret ?_ | refine inb_ret ?_
    | (apply go_unroll; (case hh => simp [hm, e0, f1, f2, w1, w2]; exact is_rfl))))
  (apply ends_ok; (case h1 => simp; exact is_rfl); (case h2 => simp; exact is_rfl))
  have w3 : (IntKind.u8.wrap ((m : Int) / 256)).toNat = m / 256 % 256 := by rw [show (m : Int) / 256 = ((m / 256 : Nat) : Int) from rfl, w2]; exact Int.toNat_natCast _
  have w4 : ((m : Int) % 256).toNat = m % 256 := by omega
  simp [w3, w4]

theorem PutR_eq (n : Int) (hn : n ≤ 9223372036854775807) : bodyW DC 33 [.int .i64 n, .int .i64 2] [] = some (.str (put2 n), []) := by
  unfold put2
  by_cases h0 : n < 0
  · have hz : n.toNat = 0 := by omega
    (refine gives_iff ?_; refine go_func Tryd.f33 rfl rfl (by simp [Tryd.f33]) ?_; dsimp only [codeL, Tryd.f33, scL, sopsL, guardL, dstAt, loopKey])
    (repeat (first
    | (apply is_ok; (case hw => simp [h0, room]); (case he => simp [h0, room]; exact is_rfl))
    | (apply op_no; (case hw => simp [h0, room]))
    | refine op_nil ?_ | refine next_normal ?_ | refine go_seq ?_ | refine go_region ?_ | refine go_skip ?_ | refine go_block ?_ | refine inb_normal ?_
    | (apply go_yes; (case hc => simp [h0, room])) | (apply go_no; (case hc => simp [h0, room]))
    | refine go_exit ?_ | refine next_exit ?_ | refine inb_here ?_ | refine inb_past (by decide) ?_ | refine go_ret ?_ | refine next_ret ?_ | refine inb_ret ?_
    | (apply go_unroll; (case hh => simp [h0, room]; exact is_rfl))))
    (apply ends_ok; (case h1 => simp; exact is_rfl); (case h2 => simp; exact is_rfl))
    simp [hz, show IntKind.u8.wrap 0 = 0 from rfl]
  · obtain ⟨m, rfl⟩ : ∃ m : Nat, n = m := ⟨n.toNat, by omega⟩
    have f1 : (m : Int).tmod 256 = ((m % 256 : Nat) : Int) := by rw [Int.tmod_eq_emod_of_nonneg (by omega)]; rfl
    have f2 : (m : Int).tdiv 256 = ((m / 256 : Nat) : Int) := by rw [Int.tdiv_eq_ediv_of_nonneg (by omega)]; rfl
    have f3 : ((m / 256 : Nat) : Int).tmod 256 = ((m / 256 % 256 : Nat) : Int) := by rw [Int.tmod_eq_emod_of_nonneg (by omega)]; rfl
    have f4 : ((m / 256 : Nat) : Int).tdiv 256 = ((m / 256 / 256 : Nat) : Int) := by rw [Int.tdiv_eq_ediv_of_nonneg (by omega)]; rfl
    have w1 : IntKind.u8.wrap ((m % 256 : Nat) : Int) = ((m % 256 : Nat) : Int) := by rw [wrap_u8_nat]; omega
    have w2 : IntKind.u8.wrap ((m / 256 % 256 : Nat) : Int) = ((m / 256 % 256 : Nat) : Int) := by rw [wrap_u8_nat]; omega
    have w3 : IntKind.i64.wrap ((m / 256 : Nat) : Int) = ((m / 256 : Nat) : Int) := wrap_id (by omega) (by omega)
    have w4 : IntKind.i64.wrap ((m / 256 / 256 : Nat) : Int) = ((m / 256 / 256 : Nat) : Int) := wrap_id (by omega) (by omega)
    (refine gives_iff ?_; refine go_func Tryd.f33 rfl rfl (by simp [Tryd.f33]) ?_; dsimp only [codeL, Tryd.f33, scL, sopsL, guardL, dstAt, loopKey])
    generalize ha : m % 256 = a at *
    generalize hb : m / 256 = b at *
    generalize hc : b % 256 = c at *
    generalize b / 256 = d at *
    (repeat (first
    | (apply is_ok; (case hw => simp [h0, room, f1, f2, f3, f4, w1, w2, w3, w4]); (case he => simp [h0, room, f1, f2, f3, f4, w1, w2, w3, w4]; exact is_rfl))
    | (apply op_no; (case hw => simp [h0, room, f1, f2, f3, f4, w1, w2, w3, w4]))
    | refine op_nil ?_ | refine next_normal ?_ | refine go_seq ?_ | refine go_region ?_ | refine go_skip ?_ | refine go_block ?_ | refine inb_normal ?_
    | (apply go_yes; (case hc => simp [h0, room, f1, f2, f3, f4, w1, w2, w3, w4])) | (apply go_no; (case hc => simp [h0, room, f1, f2, f3, f4, w1, w2, w3, w4]))
    | refine go_exit ?_ | refine next_exit ?_ | refine inb_here ?_ | refine inb_past (by decide) ?_ | refine go_ret ?_ | refine next_ret ?_ | refine inb_ret ?_
    | (apply go_unroll; (case hh => simp [h0, room, f1, f2, f3, f4, w1, w2, w3, w4]; exact is_rfl))))
    (apply ends_ok; (case h1 => simp; exact is_rfl); (case h2 => simp; exact is_rfl))
    simp [ha, hb, hc]

end Go.Abs
