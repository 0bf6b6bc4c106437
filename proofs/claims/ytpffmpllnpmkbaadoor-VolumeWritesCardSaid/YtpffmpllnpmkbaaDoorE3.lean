/- Proved here: what functions of the program compute, over the evaluator. No condition but those that each theorem states. -/
import Derived.Test.YtpffmpllnpmkbaaDoorE2
import Derived.Test.YtpffmpllnpmkbaaDoorA6
namespace Go.Abs
open Go.Proofs
set_option maxRecDepth 100000
set_option linter.unusedSimpArgs false
set_option linter.unusedVariables false

def validI (k l z : Int) (L : List Int) : Prop := if k = 0 then l = 0 ∧ z = 0 ∧ L = List.replicate 8 0
  else (k = 1 ∨ k = 2) ∧ 0 ≤ l ∧ l ≤ 32 ∧ 0 ≤ z ∧ z ≤ 1024 ∧ ∀ i ∈ List.range 8, 0 ≤ L.getD i 0 ∧ L.getD i 0 ≤ 65535 ∧ (L.getD i 0 ≠ 0 ↔ (i : Int) < (z + 127) / 128)
instance (k l z : Int) (L : List Int) : Decidable (validI k l z L) := by unfold validI; infer_instance

theorem sub_ino {k l z : Int} {L : List Int} {i : Nat} (h : i < L.length) : sub Tryd.prog 3 (.agg (.int .i64 k :: .int .i64 l :: .int .i64 z :: ints L)) (3 + i) = some (.int .i64 (L[i]'h)) := by
  unfold sub
  have e : ((V.int .i64 k :: .int .i64 l :: .int .i64 z :: ints L).drop (3 + i)).take 1 = [.int .i64 (L[i]'h)] := by
    rw [show 3 + i = i + 1 + 1 + 1 by omega]
    simp only [List.drop_succ_cons]
    rw [List.drop_eq_getElem_cons (by simpa using h)]
    simp
  simp only [inf3, Option.map_some, tsz3, cells_agg, e]
  rw [if_neg (by omega), if_pos (by simp; omega)]
  simp [mk]
theorem sub_arr {L : List Int} {i : Nat} (h : i < L.length) : sub Tryd.prog 3 (.agg (ints L)) i = some (.int .i64 (L[i]'h)) := by
  unfold sub
  have e : ((ints L).drop i).take 1 = [.int .i64 (L[i]'h)] := by
    rw [List.drop_eq_getElem_cons (by simpa using h)]
    simp
  simp only [inf3, Option.map_some, tsz3, cells_agg, e]
  rw [if_neg (by simp), if_pos (by simp; omega)]
  simp [mk]

theorem quo_z {z : Int} (h0 : 0 ≤ z) (h1 : z ≤ 1024) : IntKind.i64.wrap ((IntKind.i64.wrap (IntKind.i64.wrap (z + 128) - 1)).tdiv 128) = (z + 127) / 128 := by
  rw [wrap_id (x := z + 128) (by omega) (by omega), wrap_id (x := z + 128 - 1) (by omega) (by omega), Int.tdiv_eq_ediv_of_nonneg (by omega), wrap_id (by omega) (by omega)]
  congr 1
  omega

end Go.Abs
