/- Proved here: what functions of the program compute, over the evaluator. No condition but those that each theorem states. -/
import Derived.Test.YtbnnaaadblpgiaaD1
namespace Go.Abs
open Go.Proofs
set_option maxRecDepth 100000
set_option linter.unusedSimpArgs false

/-- A drive's value. -/
abbrev drv (S : List (List UInt8)) (B : List Int) : V := .agg [.sl (strs S), .sl (ints B)]

def FairP (S : List (List UInt8)) (B : List Int) : Prop := S.length ≤ 64 ∧ B.length ≤ 80 ∧ ∀ s ∈ S, s.length ≤ 200
instance (S : List (List UInt8)) (B : List Int) : Decidable (FairP S B) := by unfold FairP; infer_instance

theorem Fair_eq (S : List (List UInt8)) (B : List Int) : bodyW DC 13 [drv S B] [] = some (.bool (decide (FairP S B)), []) := by
  (refine gives_iff ?_; refine go_func Try.f13 rfl rfl (by simp [Try.f13]) ?_; dsimp only [codeL, Try.f13, scL, sopsL, guardL, dstAt, loopKey])
  by_cases h1 : S.length ≤ 64
  · have e1 : ¬ ((64 : Int) < S.length) := by omega
    by_cases h2 : B.length ≤ 80
    · have e2 : ¬ ((80 : Int) < B.length) := by omega
      (repeat (first
    | (apply is_ok; (case hw => simp [e1, e2]); (case he => simp [e1, e2]; exact is_rfl))
    | (apply op_no; (case hw => simp [e1, e2]))
    | refine op_nil ?_ | refine next_normal ?_ | refine go_seq ?_ | refine go_region ?_ | refine go_skip ?_ | refine go_block ?_ | refine inb_normal ?_
    | (apply go_yes; (case hc => simp [e1, e2])) | (apply go_no; (case hc => simp [e1, e2]))
    | refine go_exit ?_ | refine next_exit ?_ | refine inb_here ?_ | refine inb_past (by decide) ?_ | refine go_ret ?_ | refine next_ret ?_ | refine inb_ret ?_))
      refine go_count S.length (fun i => [(1, .ptr 0 1 0 0), (3, .int .i64 i)]) (fun _ => [.box (drv S B)]) (fun i => ∀ j (hj : j < S.length), j < i → S[j].length ≤ 200) (by simp) (by simp) fun i hi hI => ?_
      have hw : IntKind.i64.wrap ((i : Int) + 1) = (i : Int) + 1 := wrap_id (by omega) (by omega)
      by_cases hlt : i < S.length
      · by_cases h3 : S[i].length ≤ 200
        · have e3 : ¬ ((200 : Int) < S[i].length) := by omega
          (repeat (first
    | (apply is_ok; (case hw => simp [hlt, e3]); (case he => simp [hlt, e3]; exact is_rfl))
    | (apply op_no; (case hw => simp [hlt, e3]))
    | refine op_nil ?_ | refine next_normal ?_ | refine go_seq ?_ | refine go_region ?_ | refine go_skip ?_ | refine go_block ?_ | refine inb_normal ?_
    | (apply go_yes; (case hc => simp [hlt, e3])) | (apply go_no; (case hc => simp [hlt, e3]))
    | refine go_exit ?_ | refine next_exit ?_ | refine inb_here ?_ | refine inb_past (by decide) ?_ | refine go_ret ?_ | refine next_ret ?_ | refine inb_ret ?_))
          exact ⟨hlt, by simp [hw], fun j hj hji => by
            by_cases hje : j = i
            · subst hje; exact h3
            · exact hI j hj (by omega)⟩
        · have e3 : ((200 : Int) < S[i].length) := by omega
          (repeat (first
    | (apply is_ok; (case hw => simp [hlt, e3]); (case he => simp [hlt, e3]; exact is_rfl))
    | (apply op_no; (case hw => simp [hlt, e3]))
    | refine op_nil ?_ | refine next_normal ?_ | refine go_seq ?_ | refine go_region ?_ | refine go_skip ?_ | refine go_block ?_ | refine inb_normal ?_
    | (apply go_yes; (case hc => simp [hlt, e3])) | (apply go_no; (case hc => simp [hlt, e3]))
    | refine go_exit ?_ | refine next_exit ?_ | refine inb_here ?_ | refine inb_past (by decide) ?_ | refine go_ret ?_ | refine next_ret ?_ | refine inb_ret ?_))
          (apply ends_ok; (case h1 => simp; exact is_rfl); (case h2 => simp; exact is_rfl))
          have : ¬ FairP S B := fun h => h3 (h.2.2 _ (List.getElem_mem hlt))
          simp [this]
      · (repeat (first
    | (apply is_ok; (case hw => simp [hlt]); (case he => simp [hlt]; exact is_rfl))
    | (apply op_no; (case hw => simp [hlt]))
    | refine op_nil ?_ | refine next_normal ?_ | refine go_seq ?_ | refine go_region ?_ | refine go_skip ?_ | refine go_block ?_ | refine inb_normal ?_
    | (apply go_yes; (case hc => simp [hlt])) | (apply go_no; (case hc => simp [hlt]))
    | refine go_exit ?_ | refine next_exit ?_ | refine inb_here ?_ | refine inb_past (by decide) ?_ | refine go_ret ?_ | refine next_ret ?_ | refine inb_ret ?_))
        (apply ends_ok; (case h1 => simp; exact is_rfl); (case h2 => simp; exact is_rfl))
        have : FairP S B := ⟨h1, h2, fun s hs => by
          obtain ⟨j, hj, rfl⟩ := List.getElem_of_mem hs
          exact hI j hj (by omega)⟩
        simp [this]
    · have e2 : ((80 : Int) < B.length) := by omega
      (repeat (first
    | (apply is_ok; (case hw => simp [e1, e2]); (case he => simp [e1, e2]; exact is_rfl))
    | (apply op_no; (case hw => simp [e1, e2]))
    | refine op_nil ?_ | refine next_normal ?_ | refine go_seq ?_ | refine go_region ?_ | refine go_skip ?_ | refine go_block ?_ | refine inb_normal ?_
    | (apply go_yes; (case hc => simp [e1, e2])) | (apply go_no; (case hc => simp [e1, e2]))
    | refine go_exit ?_ | refine next_exit ?_ | refine inb_here ?_ | refine inb_past (by decide) ?_ | refine go_ret ?_ | refine next_ret ?_ | refine inb_ret ?_))
      (apply ends_ok; (case h1 => simp; exact is_rfl); (case h2 => simp; exact is_rfl))
      have : ¬ FairP S B := fun h => h2 h.2.1
      simp [this]
  · have e1 : ((64 : Int) < S.length) := by omega
    (repeat (first
    | (apply is_ok; (case hw => simp [e1]); (case he => simp [e1]; exact is_rfl))
    | (apply op_no; (case hw => simp [e1]))
    | refine op_nil ?_ | refine next_normal ?_ | refine go_seq ?_ | refine go_region ?_ | refine go_skip ?_ | refine go_block ?_ | refine inb_normal ?_
    | (apply go_yes; (case hc => simp [e1])) | (apply go_no; (case hc => simp [e1]))
    | refine go_exit ?_ | refine next_exit ?_ | refine inb_here ?_ | refine inb_past (by decide) ?_ | refine go_ret ?_ | refine next_ret ?_ | refine inb_ret ?_))
    (apply ends_ok; (case h1 => simp; exact is_rfl); (case h2 => simp; exact is_rfl))
    have : ¬ FairP S B := fun h => h1 h.1
    simp [this]

def RightP (S : List (List UInt8)) (B : List Int) : Prop := 1 ≤ S.length ∧ S.length ≤ 256 ∧ (∀ s ∈ S, s.length = 128) ∧ (∀ b ∈ B, 0 ≤ b ∧ b < S.length) ∧ ∀ i ∈ List.range B.length, 1 ≤ i → B.getD (i - 1) 0 < B.getD i 0
instance (S : List (List UInt8)) (B : List Int) : Decidable (RightP S B) := by unfold RightP; infer_instance

end Go.Abs
