/- Proved here: what functions of the program compute, over the evaluator. No condition but those that each theorem states. -/
import Derived.Test.YtpffmpllnpmkbaaDoorE16
namespace Go.Abs
open Go.Proofs
set_option maxRecDepth 100000
set_option linter.unusedSimpArgs false
set_option linter.unusedVariables false

/-- A byte with a bit set or cleared. -/
def markN (x r : Nat) (u : Bool) : Nat := if u then (if x / 2 ^ r % 2 = 1 then x else x + 2 ^ r) else (if x / 2 ^ r % 2 = 1 then x - 2 ^ r else x)
def andNotI (k : IntKind) (a b : Int) : Int := k.wrap (BitVec.ofInt k.bits a &&& ~~~ BitVec.ofInt k.bits b).toNat
def orI (k : IntKind) (a b : Int) : Int := k.wrap (BitVec.ofInt k.bits a ||| BitVec.ofInt k.bits b).toNat
theorem intOp_andNot (k : IntKind) (a b : Int) : intOp .andNot k a b = some (.int k (andNotI k a b)) := rfl
theorem intOp_or (k : IntKind) (a b : Int) : intOp .or k a b = some (.int k (orI k a b)) := rfl
def chk (x r : Nat) : Bool := decide (markN x r true < 256) && (decide (markN x r false < 256) && (decide (andNotI .u8 x (2 ^ r : Nat) = markN x r false) && (decide (orI .u8 (markN x r false) (2 ^ r : Nat) = markN x r true) &&
  (decide (IntKind.u8.wrap (orI .i64 x (2 ^ r : Nat)) = markN x r true) && decide (IntKind.u8.wrap (andNotI .i64 x (2 ^ r : Nat)) = markN x r false)))))
theorem chk_all : ((List.range 256).all fun x => (List.range 8).all fun r => chk x r) = true := by kernel_rfl
theorem chk_at {x r : Nat} (hx : x < 256) (hr : r < 8) : markN x r true < 256 ∧ markN x r false < 256 ∧ andNotI .u8 x (2 ^ r : Nat) = markN x r false ∧ orI .u8 (markN x r false) (2 ^ r : Nat) = markN x r true ∧
    IntKind.u8.wrap (orI .i64 x (2 ^ r : Nat)) = markN x r true ∧ IntKind.u8.wrap (andNotI .i64 x (2 ^ r : Nat)) = markN x r false := by
  have h := List.all_eq_true.1 (List.all_eq_true.1 chk_all x (List.mem_range.2 hx)) r (List.mem_range.2 hr)
  unfold chk at h
  simp only [Bool.and_eq_true, decide_eq_true_eq] at h
  exact h

def markS (s : List UInt8) (n : Nat) (u : Bool) : List UInt8 := s.set (n / 8) (UInt8.ofNat (markN (s.getD (n / 8) 0).toNat (n % 8) u))
@[simp] theorem markS_length {s : List UInt8} {n : Nat} {u : Bool} : (markS s n u).length = s.length := by simp [markS]
theorem u8s_set (s : List UInt8) (q v : Nat) (h : v < 256) : u8s (s.set q (UInt8.ofNat v)) = (u8s s).set q (.int .u8 (v : Int)) := by
  unfold u8s
  rw [List.map_set]
  congr 2
  simp
  omega

def markF (N : Int) (u : Bool) : List UInt8 → List Int → Option (List UInt8)
  | t, [] => some t
  | t, x :: l => if 27 ≤ x ∧ x < 27 + N then markF N u (markS t x.toNat u) l else none
theorem markF_at {N : Int} {u : Bool} {t : List UInt8} {l : List Int} {i : Nat} (h : i < l.length) : markF N u t (l.drop i) = if 27 ≤ l[i] ∧ l[i] < 27 + N then markF N u (markS t (l[i]).toNat u) (l.drop (i + 1)) else none := by
  rw [List.drop_eq_getElem_cons h, markF]
def markW (S : List (List UInt8)) (B : List Int) (l : List Int) (u : Bool) : (Int × List UInt8) × Int :=
  if (mapS S B).2 = 0 then (match markF (freeN S) u (mapS S B).1 l with | some t => ((18, t), 0) | none => ((0, []), 2)) else ((0, []), (mapS S B).2)

end Go.Abs
