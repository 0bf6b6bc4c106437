/- Proved here: what functions of the program compute, over the evaluator. No condition but those that each theorem states. -/
import Derived.Test.YtefdoccoajhefaaDoorG5
import Derived.Test.YtefdoccoajhefaaDoorE1
namespace Go.Abs
open Go.Proofs
set_option maxRecDepth 100000
set_option linter.unusedSimpArgs false
set_option linter.unusedVariables false

@[simp] theorem hasRoL_ent (l : List (List UInt8 × Int)) : hasRoL (l.map entV) = false := by
  rw [hasRoL_any, List.any_eq_false]
  intro x hx
  obtain ⟨w, _, rfl⟩ := List.mem_map.1 hx
  simp [entV]
@[simp] theorem refsL_ent (l : List (List UInt8 × Int)) : refsL (l.map entV) = [] := refsL_none fun x hx => by obtain ⟨a, _, rfl⟩ := List.mem_map.1 hx; simp [entV]
@[simp] theorem renL_ent (ρ : Nat → Option Nat) (l : List (List UInt8 × Int)) : renL ρ (l.map entV) = l.map entV := renL_same fun x hx => by obtain ⟨a, _, rfl⟩ := List.mem_map.1 hx; simp [entV]

def Few (l : List (List UInt8 × Int)) : Prop := l.length ≤ 70 ∧ ∀ p ∈ l, p.1.length ≤ 20
instance (l : List (List UInt8 × Int)) : Decidable (Few l) := inferInstanceAs (Decidable (_ ∧ _))

theorem few_eq (l : List (List UInt8 × Int)) : bodyW DC 13 [.sl (l.map entV)] [] = some (.bool (decide (Few l)), []) := by
  by_cases h0 : (70 : Int) < l.length
  · have : ¬ Few l := fun h => by have := h.1; omega
    rw [decide_eq_false this]
    (refine gives_iff ?_; refine go_func Tryd.f13 rfl rfl (by simp [Tryd.f13]) ?_; dsimp only [codeL, Tryd.f13, scL, sopsL, guardL, dstAt, loopKey])
    (repeat (first
    | (apply is_ok; (case hw => simp [h0]); (case he => simp [h0]; exact is_rfl))
    | (apply op_no; (case hw => simp [h0]))
    | refine op_nil ?_ | refine next_normal ?_ | refine go_seq ?_ | refine go_region ?_ | refine go_skip ?_ | refine go_block ?_ | refine inb_normal ?_
    | (apply go_yes; (case hc => simp [h0])) | (apply go_no; (case hc => simp [h0]))
    | refine go_exit ?_ | refine next_exit ?_ | refine inb_here ?_ | refine inb_past (by decide) ?_ | refine go_ret ?_ | refine next_ret ?_ | refine inb_ret ?_))
    (apply ends_ok; (case h1 => simp; exact is_rfl); (case h2 => simp; exact is_rfl))
    exact ⟨rfl, rfl⟩
  (refine gives_iff ?_; refine go_func Tryd.f13 rfl rfl (by simp [Tryd.f13]) ?_; dsimp only [codeL, Tryd.f13, scL, sopsL, guardL, dstAt, loopKey])
  (repeat (first
    | (apply is_ok; (case hw => simp [h0]); (case he => simp [h0]; exact is_rfl))
    | (apply op_no; (case hw => simp [h0]))
    | refine op_nil ?_ | refine next_normal ?_ | refine go_seq ?_ | refine go_region ?_ | refine go_skip ?_ | refine go_block ?_ | refine inb_normal ?_
    | (apply go_yes; (case hc => simp [h0])) | (apply go_no; (case hc => simp [h0]))
    | refine go_exit ?_ | refine next_exit ?_ | refine inb_here ?_ | refine inb_past (by decide) ?_ | refine go_ret ?_ | refine next_ret ?_ | refine inb_ret ?_))
  refine go_count l.length (fun i => [(0, .sl (l.map entV)), (3, .int .i64 i)]) (fun _ => []) (fun i => ∀ p ∈ l.take i, p.1.length ≤ 20) (by simp) (by simp) fun i hi hI => ?_
  by_cases hlt : i < l.length
  · have g1 : (i : Int) < l.length := by omega
    have g2 : l[i]? = some l[i] := List.getElem?_eq_getElem hlt
    have w1 : IntKind.i64.wrap ((i : Int) + 1) = (i : Int) + 1 := wrap_id (by omega) (by omega)
    by_cases hc : (20 : Int) < l[i].1.length
    · have : ¬ Few l := fun h => by have := h.2 l[i] (List.getElem_mem hlt); omega
      rw [decide_eq_false this]
      (repeat (first
    | (apply is_ok; (case hw => simp [g1, g2, hlt, hc, entV]); (case he => simp [g1, g2, hlt, hc, entV]; exact is_rfl))
    | (apply op_no; (case hw => simp [g1, g2, hlt, hc, entV]))
    | refine op_nil ?_ | refine next_normal ?_ | refine go_seq ?_ | refine go_region ?_ | refine go_skip ?_ | refine go_block ?_ | refine inb_normal ?_
    | (apply go_yes; (case hc => simp [g1, g2, hlt, hc, entV])) | (apply go_no; (case hc => simp [g1, g2, hlt, hc, entV]))
    | refine go_exit ?_ | refine next_exit ?_ | refine inb_here ?_ | refine inb_past (by decide) ?_ | refine go_ret ?_ | refine next_ret ?_ | refine inb_ret ?_))
      (apply ends_ok; (case h1 => simp; exact is_rfl); (case h2 => simp; exact is_rfl))
      exact ⟨rfl, rfl⟩
    · (repeat (first
    | (apply is_ok; (case hw => simp [g1, g2, hlt, hc, w1, entV]); (case he => simp [g1, g2, hlt, hc, w1, entV]; exact is_rfl))
    | (apply op_no; (case hw => simp [g1, g2, hlt, hc, w1, entV]))
    | refine op_nil ?_ | refine next_normal ?_ | refine go_seq ?_ | refine go_region ?_ | refine go_skip ?_ | refine go_block ?_ | refine inb_normal ?_
    | (apply go_yes; (case hc => simp [g1, g2, hlt, hc, w1, entV])) | (apply go_no; (case hc => simp [g1, g2, hlt, hc, w1, entV]))
    | refine go_exit ?_ | refine next_exit ?_ | refine inb_here ?_ | refine inb_past (by decide) ?_ | refine go_ret ?_ | refine next_ret ?_ | refine inb_ret ?_))
      refine ⟨hlt, by simp [w1, entV], fun p hp => ?_⟩
      rw [List.take_succ_eq_append_getElem hlt] at hp
      rcases List.mem_append.1 hp with h | h
      · exact hI p h
      · simp at h; subst h; omega
  · have g1 : ¬ (i : Int) < l.length := by omega
    have : Few l := ⟨by omega, by rw [List.take_of_length_le (by omega)] at hI; exact hI⟩
    rw [decide_eq_true this]
    (repeat (first
    | (apply is_ok; (case hw => simp [g1]); (case he => simp [g1]; exact is_rfl))
    | (apply op_no; (case hw => simp [g1]))
    | refine op_nil ?_ | refine next_normal ?_ | refine go_seq ?_ | refine go_region ?_ | refine go_skip ?_ | refine go_block ?_ | refine inb_normal ?_
    | (apply go_yes; (case hc => simp [g1])) | (apply go_no; (case hc => simp [g1]))
    | refine go_exit ?_ | refine next_exit ?_ | refine inb_here ?_ | refine inb_past (by decide) ?_ | refine go_ret ?_ | refine next_ret ?_ | refine inb_ret ?_))
    (apply ends_ok; (case h1 => simp; exact is_rfl); (case h2 => simp; exact is_rfl))
    exact ⟨rfl, rfl⟩
end Go.Abs
