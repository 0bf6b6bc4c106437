/- Proved here: what functions of the program compute, over the evaluator. No condition but those that each theorem states. -/
import Derived.Test.YtefdoccoajhefaaDoorTF
namespace Go.Abs
open Go.Proofs
set_option maxRecDepth 100000
set_option linter.unusedSimpArgs false
set_option linter.unusedVariables false

def trimL : List UInt8 → List UInt8
  | [] => []
  | b :: l => if b = 0 then trimL l else b :: l
def trimR (s : List UInt8) : List UInt8 := (trimL s.reverse).reverse
theorem trimL_length : ∀ s : List UInt8, (trimL s).length ≤ s.length
  | [] => by simp [trimL]
  | b :: l => by
    rw [trimL]
    split
    · have := trimL_length l
      rw [List.length_cons]; omega
    · exact Nat.le_refl _
theorem trimR_length (s : List UInt8) : (trimR s).length ≤ s.length := by
  unfold trimR
  have := trimL_length s.reverse
  simpa using this
theorem trimR_snoc (t : List UInt8) (x : UInt8) : trimR (t ++ [x]) = if x = 0 then trimR t else t ++ [x] := by
  unfold trimR
  rw [List.reverse_append]
  show (trimL (x :: t.reverse)).reverse = _
  rw [trimL]
  split <;> simp
theorem trimL_nil : ∀ s : List UInt8, trimL s = [] ↔ ∀ b ∈ s, b = 0
  | [] => by simp [trimL]
  | b :: l => by
    rw [trimL]
    split
    · rename_i h
      rw [trimL_nil l]
      simp [h]
    · rename_i h
      simp [h]
theorem trim_nil (s : List UInt8) : trimL (trimR s) = [] ↔ ∀ b ∈ s, b = 0 := by
  rw [trimL_nil]
  constructor
  · intro h
    have h2 : trimR s = [] ∨ trimR s ≠ [] := Classical.em _
    rcases h2 with h2 | h2
    · unfold trimR at h2
      rw [List.reverse_eq_nil_iff, trimL_nil] at h2
      intro b hb
      exact h2 b (List.mem_reverse.2 hb)
    · exfalso
      rcases List.eq_nil_or_concat (trimR s) with h3 | ⟨t, x, h3⟩
      · exact h2 h3
      · have hx : x = 0 := h x (by rw [h3]; simp)
        unfold trimR at h3
        have h4 : trimL s.reverse = x :: t.reverse := by
          have := congrArg List.reverse h3
          simpa using this
        have : ∀ (l : List UInt8) y r, trimL l = y :: r → y ≠ 0 := by
          intro l
          induction l with
          | nil => intro y r h; cases h
          | cons b l ih =>
            intro y r h
            rw [trimL] at h
            split at h
            · exact ih y r h
            · rename_i hb
              cases h
              exact hb
        exact this _ _ _ h4 hx
  · intro h b hb
    unfold trimR at hb
    rw [List.mem_reverse] at hb
    have : ∀ (l : List UInt8), (∀ b ∈ l, b = 0) → trimL l = [] := fun l h => (trimL_nil l).2 h
    rw [this s.reverse (fun b hb => h b (List.mem_reverse.1 hb))] at hb
    cases hb

theorem trimRight_eq (s : List UInt8) (hs : s.length ≤ 1000000) : bodyW DC 51 [.str s, .int .u8 0] [] = some (.str (trimR s), []) := by
  generalize hR : trimR s = R
  (refine gives_iff ?_; refine go_func Tryd.f51 rfl rfl (by simp [Tryd.f51]) ?_; dsimp only [codeL, Tryd.f51, scL, sopsL, guardL, dstAt, loopKey])
  (repeat (first
    | (apply is_ok; (case hw => simp); (case he => simp; exact is_rfl))
    | (apply op_no; (case hw => simp))
    | refine op_nil ?_ | refine next_normal ?_ | refine go_seq ?_ | refine go_region ?_ | refine go_skip ?_ | refine go_block ?_ | refine inb_normal ?_
    | (apply go_yes; (case hc => simp)) | (apply go_no; (case hc => simp))
    | refine go_exit ?_ | refine next_exit ?_ | refine inb_here ?_ | refine inb_past (by decide) ?_ | refine go_ret ?_ | refine next_ret ?_ | refine inb_ret ?_))
  refine go_while (σ := List UInt8) (fun s => [(0, .str s), (1, .int .u8 0)]) (fun _ => []) (fun s => trimR s = R ∧ s.length ≤ 1000000) (fun s => s.length) s (by simp) ⟨hR, hs⟩ fun s ⟨hI, hl⟩ => ?_
  rcases List.eq_nil_or_concat s with h0 | ⟨t, x, h0⟩
  · subst h0
    subst hI
    (repeat (first
    | (apply is_ok; (case hw => simp); (case he => simp; exact is_rfl))
    | (apply op_no; (case hw => simp))
    | refine op_nil ?_ | refine next_normal ?_ | refine go_seq ?_ | refine go_region ?_ | refine go_skip ?_ | refine go_block ?_ | refine inb_normal ?_
    | (apply go_yes; (case hc => simp)) | (apply go_no; (case hc => simp))
    | refine go_exit ?_ | refine next_exit ?_ | refine inb_here ?_ | refine inb_past (by decide) ?_ | refine go_ret ?_ | refine next_ret ?_ | refine inb_ret ?_))
    (apply ends_ok; (case h1 => simp; exact is_rfl); (case h2 => simp; exact is_rfl))
    simp [trimR, trimL]
  · subst h0
    rw [List.concat_eq_append] at hI hl ⊢
    rw [trimR_snoc] at hI
    rw [List.length_append, List.length_singleton] at hl
    have h1 : (0 : Int) < (t.length : Int) + 1 := by omega
    have h4 : IntKind.i64.wrap ((t.length : Int) + 1 - 1) = t.length := by rw [wrap_id (by omega) (by omega)]; omega
    have h5 : IntKind.i64.wrap (t.length : Int) = t.length := wrap_id (by omega) (by omega)
    by_cases hb : x = 0
    · subst hb
      rw [if_pos rfl] at hI
      (repeat (first
    | (apply is_ok; (case hw => simp [h1, h4, h5]); (case he => simp [h1, h4, h5]; exact is_rfl))
    | (apply op_no; (case hw => simp [h1, h4, h5]))
    | refine op_nil ?_ | refine next_normal ?_ | refine go_seq ?_ | refine go_region ?_ | refine go_skip ?_ | refine go_block ?_ | refine inb_normal ?_
    | (apply go_yes; (case hc => simp [h1, h4, h5])) | (apply go_no; (case hc => simp [h1, h4, h5]))
    | refine go_exit ?_ | refine next_exit ?_ | refine inb_here ?_ | refine inb_past (by decide) ?_ | refine go_ret ?_ | refine next_ret ?_ | refine inb_ret ?_))
      exact ⟨t, by simp, by simp, hI, by omega⟩
    · rw [if_neg hb] at hI
      subst hI
      have h2 : ¬ ((x.toNat : Int) = 0) := fun h => hb (UInt8.toNat_inj.1 (by simpa using h))
      have h3 : ¬ (x.toNat = 0) := by omega
      (repeat (first
    | (apply is_ok; (case hw => simp [h1, h2, h3, h4, h5, hb]); (case he => simp [h1, h2, h3, h4, h5, hb]; exact is_rfl))
    | (apply op_no; (case hw => simp [h1, h2, h3, h4, h5, hb]))
    | refine op_nil ?_ | refine next_normal ?_ | refine go_seq ?_ | refine go_region ?_ | refine go_skip ?_ | refine go_block ?_ | refine inb_normal ?_
    | (apply go_yes; (case hc => simp [h1, h2, h3, h4, h5, hb])) | (apply go_no; (case hc => simp [h1, h2, h3, h4, h5, hb]))
    | refine go_exit ?_ | refine next_exit ?_ | refine inb_here ?_ | refine inb_past (by decide) ?_ | refine go_ret ?_ | refine next_ret ?_ | refine inb_ret ?_))
      (apply ends_ok; (case h1 => simp; exact is_rfl); (case h2 => simp; exact is_rfl))
      simp

end Go.Abs
