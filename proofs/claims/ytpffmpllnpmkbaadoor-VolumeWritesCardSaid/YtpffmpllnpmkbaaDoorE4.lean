/- Proved here: what functions of the program compute, over the evaluator. No condition but those that each theorem states. -/
import Derived.Test.YtpffmpllnpmkbaaDoorE3
namespace Go.Abs
open Go.Proofs
set_option maxRecDepth 100000
set_option linter.unusedSimpArgs false
set_option linter.unusedVariables false

theorem and_ffff (x : Int) : IntKind.i64.wrap ((BitVec.ofInt 64 x &&& 65535#64).toNat : Int) = x % 65536 := by
  have h : (BitVec.ofInt 64 x &&& 65535#64).toNat = (x % 18446744073709551616).toNat % 65536 := by
    rw [BitVec.toNat_and, BitVec.toNat_ofInt]
    exact Nat.and_two_pow_sub_one_eq_mod _ 16
  rw [h, wrap_id (by omega) (by omega)]
  omega

theorem intOp_and (x : Int) : intOp .and .i64 x 65535 = some (.int .i64 (x % 65536)) := by
  show some (V.int .i64 (IntKind.i64.wrap ((BitVec.ofInt 64 x &&& BitVec.ofInt 64 65535).toNat : Int))) = _
  rw [show BitVec.ofInt 64 65535 = 65535#64 from rfl, and_ffff x]
@[simp] theorem intOp_add (k : IntKind) (a b : Int) : intOp .add k a b = some (.int k (k.wrap (a + b))) := rfl
@[simp] theorem intOp_sub (k : IntKind) (a b : Int) : intOp .sub k a b = some (.int k (k.wrap (a - b))) := rfl
@[simp] theorem intOp_mul (k : IntKind) (a b : Int) : intOp .mul k a b = some (.int k (k.wrap (a * b))) := rfl
@[simp] theorem intOp_eql (k : IntKind) (a b : Int) : intOp .eql k a b = some (.bool (a == b)) := rfl
@[simp] theorem intOp_neq (k : IntKind) (a b : Int) : intOp .neq k a b = some (.bool (a != b)) := rfl
@[simp] theorem intOp_lss (k : IntKind) (a b : Int) : intOp .lss k a b = some (.bool (decide (a < b))) := rfl
@[simp] theorem intOp_leq (k : IntKind) (a b : Int) : intOp .leq k a b = some (.bool (decide (a ≤ b))) := rfl
@[simp] theorem intOp_gtr (k : IntKind) (a b : Int) : intOp .gtr k a b = some (.bool (decide (a > b))) := rfl
@[simp] theorem intOp_geq (k : IntKind) (a b : Int) : intOp .geq k a b = some (.bool (decide (a ≥ b))) := rfl

end Go.Abs
