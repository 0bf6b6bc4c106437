/- Proved here: what functions of the program compute, over the evaluator. No condition but those that each theorem states. -/
import Derived.Test.YthpkihimboiglaaTF
namespace Go.Abs
open Go.Proofs
set_option maxRecDepth 100000
set_option linter.unusedSimpArgs false
set_option linter.unusedVariables false

theorem refsL_none {l : List V} (h : ∀ x ∈ l, refs x = []) : refsL l = [] := by
  induction l with
  | nil => rfl
  | cons x l ih => rw [refsL_cons, h x (List.mem_cons_self ..), ih fun y hy => h y (List.mem_cons_of_mem _ hy)]; rfl
theorem renL_same {ρ : Nat → Option Nat} {l : List V} (h : ∀ x ∈ l, ren ρ x = x) : renL ρ l = l := by
  induction l with
  | nil => rfl
  | cons x l ih => rw [renL_cons, h x (List.mem_cons_self ..), ih fun y hy => h y (List.mem_cons_of_mem _ hy)]
@[simp] theorem refsL_ints (k : IntKind) (L : List Int) : refsL (L.map (V.int k)) = [] := refsL_none fun x hx => by obtain ⟨a, _, rfl⟩ := List.mem_map.1 hx; rfl
@[simp] theorem refsL_strs (L : List (List UInt8)) : refsL (L.map V.str) = [] := refsL_none fun x hx => by obtain ⟨a, _, rfl⟩ := List.mem_map.1 hx; rfl
@[simp] theorem refsL_ints_take (n : Nat) (k : IntKind) (L : List Int) : refsL ((L.map (V.int k)).take n) = [] := refsL_none fun x hx => by obtain ⟨a, _, rfl⟩ := List.mem_map.1 (List.mem_of_mem_take hx); rfl
@[simp] theorem renL_ints (ρ : Nat → Option Nat) (k : IntKind) (L : List Int) : renL ρ (L.map (V.int k)) = L.map (V.int k) := renL_same fun x hx => by obtain ⟨a, _, rfl⟩ := List.mem_map.1 hx; rfl
@[simp] theorem renL_strs (ρ : Nat → Option Nat) (L : List (List UInt8)) : renL ρ (L.map V.str) = L.map V.str := renL_same fun x hx => by obtain ⟨a, _, rfl⟩ := List.mem_map.1 hx; rfl

/-- A whole number as two bytes. -/
def put2 (n : Int) : List UInt8 := [UInt8.ofNat (n.toNat % 256), UInt8.ofNat (n.toNat / 256 % 256)]
theorem wrap_u8_nat (x : Nat) : IntKind.u8.wrap (x : Int) = ((x % 256 : Nat) : Int) := by simp [IntKind.wrap, IntKind.bits, IntKind.signed]
theorem fdiv_nat (a b : Nat) : (a : Int).fdiv (b : Int) = ((a / b : Nat) : Int) := by rw [Int.fdiv_eq_ediv_of_nonneg _ (by omega)]; rfl

@[simp] theorem ofVal_int (k : IntKind) (n : Int) : ofVal (.int k n) = .int k n := rfl
@[simp] theorem ofVal_bool (b : Bool) : ofVal (.bool b) = .bool b := rfl
@[simp] theorem ofVal_str (s : ByteArray) : ofVal (.string s) = .str s.data.toList := rfl

@[simp] theorem wrap_lit {x : Int} (h : -9223372036854775808 ≤ x) (h' : x ≤ 9223372036854775807) : IntKind.i64.wrap x = x := wrap_id h h'
@[simp] theorem bits_i64 : IntKind.i64.bits = 64 := rfl
@[simp] theorem bits_u8 : IntKind.u8.bits = 8 := rfl
@[simp] theorem bits_u64 : IntKind.u64.bits = 64 := rfl

end Go.Abs
