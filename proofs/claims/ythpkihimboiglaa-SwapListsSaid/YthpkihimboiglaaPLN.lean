/- Proved here: what functions of the program compute, over the evaluator. No condition but those that each theorem states. -/
import Derived.Test.YthpkihimboiglaaOPN
namespace Go.Abs
open Go.Proofs
set_option maxRecDepth 100000
set_option linter.unusedSimpArgs false
set_option linter.unusedVariables false

/-- A cell that leads to nothing of a call's own. -/
def PlainV (x : V) : Prop := (∀ H, sealV H x = some (x, [])) ∧ refs x = [] ∧ (∀ ρ, ren ρ x = x) ∧ x.storable = true ∧ x.isAgg = false
theorem plain_bool (b : Bool) : PlainV (.bool b) := ⟨fun _ => rfl, rfl, fun _ => rfl, rfl, rfl⟩
theorem plain_int (k : IntKind) (n : Int) : PlainV (.int k n) := ⟨fun _ => rfl, rfl, fun _ => rfl, rfl, rfl⟩
theorem plain_str (s : List UInt8) : PlainV (.str s) := ⟨fun _ => rfl, rfl, fun _ => rfl, rfl, rfl⟩
theorem plain_sl (es : List V) : PlainV (.sl es) := ⟨fun _ => rfl, rfl, fun _ => rfl, rfl, rfl⟩

/-- Is all of a type plain? -/
def plainT (P : Program) : Nat → TypeId → Bool
  | 0, _ => false
  | n + 1, t => match P.underlying t with
    | some .bool | some (.int _) | some .string => true
    | some (.slice e) => P.cellsOf e != 0
    | some (.struct fs) => (fs.toList.all fun f => plainT P n f.type) && (List.range (P.cellsOf t)).all fun j => fs.toList.any fun f => decide (f.offset ≤ j) && decide (j < f.offset + P.cellsOf f.type)
    | some (.array m e) => plainT P n e && decide (P.cellsOf t ≤ m * P.cellsOf e)
    | _ => false

theorem mem_part {xs : List V} {j o n : Nat} (h : j < xs.length) (h1 : o ≤ j) (h2 : j < o + n) : xs[j] ∈ (xs.drop o).take n := by
  have : xs[j] = ((xs.drop o).take n)[j - o]'(by simp; omega) := by simp [show o + (j - o) = j by omega]
  rw [this]
  exact List.getElem_mem _

theorem hasT_plain {P : Program} : ∀ (k n : Nat) (t : TypeId) (xs : List V), plainT P k t = true → HasT P n t xs → ∀ x ∈ xs, PlainV x
  | 0, _, _, _, h, _ => by cases h
  | k + 1, 0, _, _, _, h => h.elim
  | k + 1, n + 1, t, xs, hk, h => by
    intro x hx
    simp only [plainT] at hk
    simp only [HasT] at h
    cases hu : P.underlying t with
    | none => rw [hu] at hk; cases hk
    | some d =>
      rw [hu] at hk h
      cases d
      case bool => obtain ⟨b, rfl⟩ := h; rw [List.mem_singleton.1 hx]; exact plain_bool b
      case int kk => obtain ⟨m, rfl, _⟩ := h; rw [List.mem_singleton.1 hx]; exact plain_int kk m
      case string => obtain ⟨s, rfl, _⟩ := h; rw [List.mem_singleton.1 hx]; exact plain_str s
      case slice e =>
        have hc : P.cellsOf e ≠ 0 := by simpa using hk
        simp only [if_neg hc] at h
        obtain ⟨es, rfl, _⟩ := h
        rw [List.mem_singleton.1 hx]; exact plain_sl es
      case struct fs =>
        simp only [Bool.and_eq_true, List.all_eq_true, List.mem_range, List.any_eq_true, decide_eq_true_eq] at hk
        obtain ⟨j, hj, rfl⟩ := List.mem_iff_getElem.1 hx
        obtain ⟨f, hf, h1, h2⟩ := hk.2 j (by rw [← h.1]; exact hj)
        exact hasT_plain k n f.type _ (hk.1 f hf) (h.2 f hf) _ (mem_part hj h1 h2)
      case array m e =>
        simp only [Bool.and_eq_true, decide_eq_true_eq] at hk
        obtain ⟨j, hj, rfl⟩ := List.mem_iff_getElem.1 hx
        have hj' : j < m * P.cellsOf e := by have := h.1; omega
        have hc : 0 < P.cellsOf e := by
          rcases Nat.eq_zero_or_pos (P.cellsOf e) with h0 | h0
          · rw [h0] at hj'; omega
          · exact h0
        have h1 : j / P.cellsOf e < m := (Nat.div_lt_iff_lt_mul hc).2 hj'
        have h2 := Nat.div_add_mod j (P.cellsOf e)
        have h3 := Nat.mod_lt j hc
        rw [Nat.mul_comm] at h2
        exact hasT_plain k n e _ hk.1 (h.2 _ h1) _ (mem_part hj (by omega) (by omega))
      all_goals (simp only at hk; cases hk)

section
variable {H : Heap} {ρ : Nat → Option Nat}
theorem plain_sealL : ∀ (l : List V), (∀ x ∈ l, PlainV x) → sealL H l = some (l, [])
  | [], _ => rfl
  | x :: l, h => by rw [sealL, (h x (by simp)).1, plain_sealL l fun y hy => h y (by simp [hy])]; rfl
theorem plain_refsL : ∀ (l : List V), (∀ x ∈ l, PlainV x) → refsL l = []
  | [], _ => rfl
  | x :: l, h => by rw [refsL, (h x (by simp)).2.1, plain_refsL l fun y hy => h y (by simp [hy])]; rfl
theorem plain_renL : ∀ (l : List V), (∀ x ∈ l, PlainV x) → renL ρ l = l
  | [], _ => rfl
  | x :: l, h => by rw [renL, (h x (by simp)).2.2.1, plain_renL l fun y hy => h y (by simp [hy])]
end

theorem hasT_array {P : Program} {n m : Nat} {t e : TypeId} (hu : P.underlying t = some (.array m e)) {xs : List V} (h : HasT P n t xs) : ∃ k, n = k + 1 ∧ xs.length = P.cellsOf t ∧ ∀ i, i < m → HasT P k e ((xs.drop (i * P.cellsOf e)).take (P.cellsOf e)) := by
  obtain ⟨k, rfl⟩ := hasT_pos h
  simp only [HasT, hu] at h
  exact ⟨k, rfl, h⟩

/-- Some plain cells. -/
structure Cs (n : Nat) where
  l : List V
  len : l.length = n
  pl : ∀ x ∈ l, PlainV x

section
variable {P : Program} {t : TypeId} {z : TypeInfo} {off : Nat} {pre mid post : List V}
theorem sub_agg (hz : P.info? t = some z) (ha : aggT P t = some true) (hp : pre.length = off) (hm : mid.length = z.size) : sub P t (.agg (pre ++ (mid ++ post))) off = some (.agg mid) := by
  unfold sub
  rw [hz]
  simp only [Option.map_some, V.cells, V.isAgg, ha, and_true]
  split
  · rename_i h
    have h1 : pre = [] := List.eq_nil_of_length_eq_zero (by omega)
    have h2 : post = [] := List.eq_nil_of_length_eq_zero (by have := h.2; simp [h1] at this; omega)
    simp [h1, h2]
  · refine (if_pos (by simp; omega)).trans ?_
    unfold mk
    rw [ha]
    simp [← hp, ← hm]
theorem sub_one {x : V} (hz : P.info? t = some z) (ha : aggT P t = some false) (hp : pre.length = off) (hm : z.size = 1) (hx : x.isAgg = false) : sub P t (.agg (pre ++ x :: post)) off = some x := by
  unfold sub
  rw [hz]
  simp only [Option.map_some, V.cells, V.isAgg, ha, Option.some.injEq, Bool.true_eq_false, and_false, if_false]
  refine (if_pos (by simp; omega)).trans ?_
  unfold mk
  rw [ha, hm]
  simp [← hp, hx]
theorem setSub_agg {mid' : List V} (hp : pre.length = off) (hm : mid'.length = mid.length) : setSub (.agg (pre ++ (mid ++ post))) off (.agg mid') = some (.agg (pre ++ (mid' ++ post))) := by
  unfold setSub
  simp only [V.cells, V.isAgg, true_and]
  split
  · rename_i h
    have h1 : pre = [] := List.eq_nil_of_length_eq_zero (by omega)
    have h2 : post = [] := List.eq_nil_of_length_eq_zero (by have := h.2; simp [h1] at this; omega)
    simp [h1, h2]
  · refine (if_pos (by simp; omega)).trans ?_
    simp [← hp, hm, ← Nat.add_assoc]
theorem setSub_one {x y : V} (hp : pre.length = off) (hx : y.isAgg = false) : setSub (.agg (pre ++ x :: post)) off y = some (.agg (pre ++ y :: post)) := by
  have hc : y.cells = [y] := cells_one hx
  unfold setSub
  simp only [hx, hc]
  refine (if_neg (by simp)).trans ((if_pos (by simp; omega)).trans ?_)
  simp [← hp]
end
end Go.Abs
