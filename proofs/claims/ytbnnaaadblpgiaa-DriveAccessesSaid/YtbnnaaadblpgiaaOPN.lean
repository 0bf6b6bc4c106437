/- Proved here: what functions of the program compute, over the evaluator. No condition but those that each theorem states. -/
import Derived.Test.YtbnnaaadblpgiaaTF
namespace Go.Abs
open Go.Proofs
set_option maxRecDepth 100000
set_option linter.unusedSimpArgs false
set_option linter.unusedVariables false

theorem map_of {α : Type} {es : List V} {f : α → V} {p : α → Prop} (h : ∀ x ∈ es, ∃ a, x = f a ∧ p a) : ∃ l : List α, es = l.map f ∧ ∀ a ∈ l, p a := by
  induction es with
  | nil => exact ⟨[], rfl, by simp⟩
  | cons x es ih =>
    obtain ⟨l, rfl, h2⟩ := ih fun y hy => h y (List.mem_cons_of_mem _ hy)
    obtain ⟨a, rfl, h3⟩ := h x (List.mem_cons_self ..)
    exact ⟨a :: l, rfl, fun b hb => by
      rcases List.mem_cons.1 hb with rfl | hb
      · exact h3
      · exact h2 b hb⟩

theorem cells_one {x : V} (h : x.isAgg = false) : x.cells = [x] := by cases x <;> first | rfl | cases h
theorem cells_some {x : V} (h : x.isAgg = true) : ∃ cs, x = .agg cs := by cases x <;> first | exact ⟨_, rfl⟩ | cases h

section
variable {P : Program} {n : Nat} {t e : TypeId} {x : V}
theorem hasT_pos {xs : List V} (h : HasT P n t xs) : ∃ m, n = m + 1 := by
  cases n with
  | zero => exact h.elim
  | succ m => exact ⟨m, rfl⟩
theorem hasT_int {k : IntKind} (hu : P.underlying t = some (.int k)) {xs : List V} (h : HasT P n t xs) : ∃ m, xs = [.int k m] ∧ (Lit.int k m).wf = true := by
  obtain ⟨m, rfl⟩ := hasT_pos h
  simpa only [HasT, hu] using h
theorem hasT_str (hu : P.underlying t = some .string) {xs : List V} (h : HasT P n t xs) : ∃ s : List UInt8, xs = [.str s] ∧ s.length ≤ maxLen := by
  obtain ⟨m, rfl⟩ := hasT_pos h
  simpa only [HasT, hu] using h
theorem hasT_bool (hu : P.underlying t = some .bool) {xs : List V} (h : HasT P n t xs) : ∃ b, xs = [.bool b] := by
  obtain ⟨m, rfl⟩ := hasT_pos h
  simpa only [HasT, hu] using h
theorem hasT_slice (hu : P.underlying t = some (.slice e)) (hc : P.cellsOf e ≠ 0) {xs : List V} (h : HasT P n t xs) : ∃ m es, n = m + 1 ∧ xs = [.sl es] ∧ es.length ≤ maxLen ∧ ∀ x ∈ es, aggT P e = some x.isAgg ∧ HasT P m e x.cells := by
  obtain ⟨m, rfl⟩ := hasT_pos h
  simp only [HasT, hu, if_neg hc] at h
  obtain ⟨es, h1, h2, h3⟩ := h
  exact ⟨m, es, rfl, h1, h2, h3⟩
theorem hasT_strs (hu : P.underlying t = some (.slice e)) (hc : P.cellsOf e ≠ 0) (he : P.underlying e = some .string) {xs : List V} (h : HasT P n t xs) : ∃ S : List (List UInt8), xs = [.sl (S.map V.str)] ∧ S.length ≤ maxLen ∧ ∀ s ∈ S, s.length ≤ maxLen := by
  obtain ⟨m, es, rfl, rfl, h1, h2⟩ := hasT_slice hu hc h
  have hag : aggT P e = some false := by simp [aggT, he]
  obtain ⟨S, rfl, h3⟩ := map_of (p := fun s => s.length ≤ maxLen) (f := V.str) fun x hx => by
    obtain ⟨h3, h4⟩ := h2 x hx
    rw [hag] at h3
    obtain ⟨s, h5, h6⟩ := hasT_str he h4
    rw [cells_one (Option.some.inj h3).symm] at h5
    cases h5
    exact ⟨s, rfl, h6⟩
  exact ⟨S, rfl, by simpa using h1, h3⟩
theorem hasT_ints {k : IntKind} (hu : P.underlying t = some (.slice e)) (hc : P.cellsOf e ≠ 0) (he : P.underlying e = some (.int k)) {xs : List V} (h : HasT P n t xs) : ∃ S : List Int, xs = [.sl (S.map (V.int k))] ∧ S.length ≤ maxLen ∧ ∀ s ∈ S, (Lit.int k s).wf = true := by
  obtain ⟨m, es, rfl, rfl, h1, h2⟩ := hasT_slice hu hc h
  have hag : aggT P e = some false := by simp [aggT, he]
  obtain ⟨S, rfl, h3⟩ := map_of (p := fun s => (Lit.int k s).wf = true) (f := V.int k) fun x hx => by
    obtain ⟨h3, h4⟩ := h2 x hx
    rw [hag] at h3
    obtain ⟨s, h5, h6⟩ := hasT_int he h4
    rw [cells_one (Option.some.inj h3).symm] at h5
    cases h5
    exact ⟨s, rfl, h6⟩
  exact ⟨S, rfl, by simpa using h1, h3⟩
theorem hasT_struct {fs : Array Field} (hu : P.underlying t = some (.struct fs)) {xs : List V} (h : HasT P n t xs) : ∃ m, n = m + 1 ∧ xs.length = P.cellsOf t ∧ ∀ (i : Nat) (f : Field), fs[i]? = some f → HasT P m f.type ((xs.drop f.offset).take (P.cellsOf f.type)) := by
  obtain ⟨m, rfl⟩ := hasT_pos h
  simp only [HasT, hu] at h
  exact ⟨m, rfl, h.1, fun i f hf => h.2 f (by simpa using Array.mem_of_getElem? hf)⟩
theorem int_of {k : IntKind} (hu : P.underlying t = some (.int k)) (h : ArgT P t x) : ∃ m, x = .int k m ∧ (Lit.int k m).wf = true := by
  obtain ⟨n, h1, h2⟩ := h
  rw [show aggT P t = some false by simp [aggT, hu]] at h2
  rw [cells_one (Option.some.inj h2).symm] at h1
  obtain ⟨m, h3, h4⟩ := hasT_int hu h1
  cases h3
  exact ⟨m, rfl, h4⟩
theorem str_of (hu : P.underlying t = some .string) (h : ArgT P t x) : ∃ s : List UInt8, x = .str s ∧ s.length ≤ maxLen := by
  obtain ⟨n, h1, h2⟩ := h
  rw [show aggT P t = some false by simp [aggT, hu]] at h2
  rw [cells_one (Option.some.inj h2).symm] at h1
  obtain ⟨m, h3, h4⟩ := hasT_str hu h1
  cases h3
  exact ⟨m, rfl, h4⟩
theorem wf_i64 {m : Int} (h : (Lit.int .i64 m).wf = true) : -9223372036854775808 ≤ m ∧ m ≤ 9223372036854775807 := by
  simpa [Lit.wf, IntKind.min, IntKind.max, IntKind.signed, IntKind.bits] using h
end

theorem cells_ne {P : Program} {e : TypeId} {n : Nat} (h : P.cellsOf e = n) (hn : n ≠ 0) : P.cellsOf e ≠ 0 := by rw [h]; exact hn

theorem wf_u8 {m : Int} (h : (Lit.int .u8 m).wf = true) : 0 ≤ m ∧ m ≤ 255 := by
  simpa [Lit.wf, IntKind.min, IntKind.max, IntKind.signed, IntKind.bits] using h
theorem u8_of {t : TypeId} {P : Program} {x : V} (hu : P.underlying t = some (.int .u8)) (h : ArgT P t x) : ∃ k : Nat, x = .int .u8 k ∧ k ≤ 255 := by
  obtain ⟨m, rfl, h1⟩ := int_of hu h
  obtain ⟨h2, h3⟩ := wf_u8 h1
  exact ⟨m.toNat, by rw [Int.toNat_of_nonneg h2], by omega⟩
end Go.Abs
