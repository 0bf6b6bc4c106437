/- Proved here: what functions of the program compute, over the evaluator. No condition but those that each theorem states. -/
import Derived.Test.YthpkihimboiglaaTF
import Derived.Test.YthpkihimboiglaaOPN
namespace Go.Abs
open Go.Proofs
set_option maxRecDepth 100000
set_option linter.unusedSimpArgs false
set_option linter.unusedVariables false

/-- Extents: a start and a number of units. -/
abbrev Ex := Int × Int
def meetP (a b : Ex) : Prop := 0 < a.2 ∧ 0 < b.2 ∧ a.1 < b.1 + b.2 ∧ b.1 < a.1 + a.2
instance (a b : Ex) : Decidable (meetP a b) := by unfold meetP; infer_instance
/-- Is there room for some units from n on? -/
def roomP (l : List Ex) (w : Ex) (k n : Int) : Prop := (∀ y ∈ l, ¬ meetP (n, k) y) ∧ w.1 ≤ n ∧ n + k ≤ w.1 + w.2
instance (l : List Ex) (w : Ex) (k n : Int) : Decidable (roomP l w k n) := by unfold roomP; infer_instance
/-- Where a first place may begin. -/
def candP (l : List Ex) (w : Ex) (m : Int) : Prop := m = w.1 ∨ ∃ y ∈ l, 0 < y.2 ∧ m = y.1 + y.2

/-- The greatest candidate up to n. -/
theorem cand_max (l : List Ex) (w : Ex) (n : Int) (h : w.1 ≤ n) : ∃ m, candP l w m ∧ m ≤ n ∧ ∀ c, candP l w c → c ≤ n → c ≤ m := by
  induction l with
  | nil => 
    refine ⟨w.1, .inl rfl, h, fun c hc _ => ?_⟩
    rcases hc with rfl | ⟨y, hy, _⟩
    · exact Int.le_refl _
    · cases hy
  | cons x l ih =>
    obtain ⟨m, hm, hmn, hmax⟩ := ih
    have up : candP (x :: l) w m := hm.imp id fun ⟨y, hy, h⟩ => ⟨y, List.mem_cons_of_mem _ hy, h⟩
    have down : ∀ c, candP (x :: l) w c → candP l w c ∨ (0 < x.2 ∧ c = x.1 + x.2) := fun c hc => by
      rcases hc with h | ⟨y, hy, h1, h2⟩
      · exact .inl (.inl h)
      · rcases List.mem_cons.1 hy with rfl | hy
        · exact .inr ⟨h1, h2⟩
        · exact .inl (.inr ⟨y, hy, h1, h2⟩)
    by_cases hx : 0 < x.2 ∧ x.1 + x.2 ≤ n ∧ m < x.1 + x.2
    · refine ⟨x.1 + x.2, .inr ⟨x, List.mem_cons_self .., hx.1, rfl⟩, hx.2.1, fun c hc hcn => ?_⟩
      rcases down c hc with h | ⟨_, rfl⟩
      · have := hmax c h hcn
        omega
      · exact Int.le_refl _
    · refine ⟨m, up, hmn, fun c hc hcn => ?_⟩
      rcases down c hc with h | ⟨h1, rfl⟩
      · exact hmax c h hcn
      · by_cases h2 : x.1 + x.2 ≤ m
        · exact h2
        · exact absurd ⟨h1, hcn, by omega⟩ hx
/-- Where there is room, there is room at a candidate before it. -/
theorem room_cand {l : List Ex} {w : Ex} {k n : Int} (hk : 0 < k) (h : roomP l w k n) : ∃ m, candP l w m ∧ m ≤ n ∧ roomP l w k m := by
  obtain ⟨h1, h2, h3⟩ := h
  obtain ⟨m, hm, hmn, hmax⟩ := cand_max l w n h2
  refine ⟨m, hm, hmn, fun y hy hme => ?_, hmax w.1 (.inl rfl) h2, by omega⟩
  unfold meetP at hme
  dsimp only at hme
  by_cases hyn : y.1 + y.2 ≤ n
  · have := hmax (y.1 + y.2) (.inr ⟨y, hy, hme.2.1, rfl⟩) hyn
    omega
  · exact h1 y hy ⟨hk, hme.2.1, by dsimp only; omega, by dsimp only; omega⟩

/-- The least of the places with room among some. -/
def leastR (l : List Ex) (w : Ex) (k : Int) (cs : List Int) : Option Int := ((sorted cs).find? fun n => decide (roomP l w k n))
theorem find_sorted_min {p : Int → Bool} : ∀ {cs : List Int} {n : Int}, cs.Pairwise (· ≤ ·) → cs.find? p = some n → n ∈ cs ∧ p n = true ∧ ∀ m ∈ cs, p m = true → n ≤ m
  | [], n, _, h => by cases h
  | c :: cs, n, hs, h => by
    rw [List.pairwise_cons] at hs
    rw [List.find?_cons] at h
    cases hp : p c with
    | true =>
      rw [hp] at h
      cases h
      exact ⟨List.mem_cons_self .., hp, fun m hm _ => by
        rcases List.mem_cons.1 hm with rfl | hm
        · exact Int.le_refl _
        · exact hs.1 m hm⟩
    | false =>
      rw [hp] at h
      obtain ⟨h1, h2, h3⟩ := find_sorted_min hs.2 h
      exact ⟨List.mem_cons_of_mem _ h1, h2, fun m hm hpm => by
        rcases List.mem_cons.1 hm with rfl | hm
        · rw [hp] at hpm; cases hpm
        · exact h3 m hm hpm⟩
end Go.Abs
