/- Proved here: what functions of the program compute, over the evaluator. No condition but those that each theorem states. -/
import Derived.Test.YthpkihimboiglaaM4
import Derived.Test.YthpkihimboiglaaM2
import Derived.Test.YthpkihimboiglaaM5
namespace Go.Abs
open Go.Proofs
set_option maxRecDepth 100000
set_option linter.unusedSimpArgs false
set_option linter.unusedVariables false

/-- Is a memory valid? -/
structure MemP (mem bad : List Int) : Prop where
  lo : 256 ≤ 2 * mem.length
  hi : 2 * mem.length ≤ 32768
  div : 2 * mem.length % 64 = 0
  words : Words mem
  ok : ∀ a ∈ bad, 0 ≤ a ∧ a < 2 * mem.length ∧ a % 2 = 0
  asc : bad.Pairwise (· < ·)
noncomputable def memB (mem bad : List Int) : Bool := @decide (MemP mem bad) (Classical.propDecidable _)
theorem memB_yes {mem bad : List Int} (h : MemP mem bad) : memB mem bad = true := by unfold memB; simp [h]
theorem memB_no {mem bad : List Int} (h : ¬ MemP mem bad) : memB mem bad = false := by unfold memB; simp [h]
theorem memB_iff {mem bad : List Int} : memB mem bad = true ↔ MemP mem bad := by unfold memB; simp

theorem Size_eq (n : Nat) : bodyW DC 66 [.int .i64 n] [] = some (.bool (decide (256 ≤ n ∧ n ≤ 32768 ∧ n % 64 = 0)), []) := by
  have q : (n : Int).tmod 64 = (n : Int) % 64 := Int.tmod_eq_emod_of_nonneg (by omega)
  by_cases h1 : 256 ≤ n
  · have c1 : (256 : Int) ≤ n := by omega
    by_cases h2 : n ≤ 32768
    · have c2 : (n : Int) ≤ 32768 := by omega
      have e : (n % 64 = 0) ↔ (n : Int) % 64 = 0 := by omega
      (refine gives_iff ?_; refine go_func Try.f66 rfl rfl (by simp [Try.f66]) ?_; dsimp only [codeL, Try.f66, scL, sopsL, guardL, dstAt, loopKey])
      (repeat (first
    | (apply is_ok; (case hw => simp [c1, c2, q]); (case he => simp [c1, c2, q]; exact is_rfl))
    | (apply op_no; (case hw => simp [c1, c2, q]))
    | refine op_nil ?_ | refine next_normal ?_ | refine go_seq ?_ | refine go_region ?_ | refine go_skip ?_ | refine go_block ?_ | refine inb_normal ?_
    | (apply go_yes; (case hc => simp [c1, c2, q])) | (apply go_no; (case hc => simp [c1, c2, q]))
    | refine go_exit ?_ | refine next_exit ?_ | refine inb_here ?_ | refine inb_past (by decide) ?_ | refine go_ret ?_ | refine next_ret ?_ | refine inb_ret ?_))
      (apply ends_ok; (case h1 => simp; exact is_rfl); (case h2 => simp; exact is_rfl))
      simp [h1, h2, e, Bool.beq_eq_decide_eq]
    · have c2 : ¬ (n : Int) ≤ 32768 := by omega
      (refine gives_iff ?_; refine go_func Try.f66 rfl rfl (by simp [Try.f66]) ?_; dsimp only [codeL, Try.f66, scL, sopsL, guardL, dstAt, loopKey])
      (repeat (first
    | (apply is_ok; (case hw => simp [c1, c2, q]); (case he => simp [c1, c2, q]; exact is_rfl))
    | (apply op_no; (case hw => simp [c1, c2, q]))
    | refine op_nil ?_ | refine next_normal ?_ | refine go_seq ?_ | refine go_region ?_ | refine go_skip ?_ | refine go_block ?_ | refine inb_normal ?_
    | (apply go_yes; (case hc => simp [c1, c2, q])) | (apply go_no; (case hc => simp [c1, c2, q]))
    | refine go_exit ?_ | refine next_exit ?_ | refine inb_here ?_ | refine inb_past (by decide) ?_ | refine go_ret ?_ | refine next_ret ?_ | refine inb_ret ?_))
      (apply ends_ok; (case h1 => simp; exact is_rfl); (case h2 => simp; exact is_rfl))
      simp [h1, h2]
  · have c1 : ¬ (256 : Int) ≤ n := by omega
    (refine gives_iff ?_; refine go_func Try.f66 rfl rfl (by simp [Try.f66]) ?_; dsimp only [codeL, Try.f66, scL, sopsL, guardL, dstAt, loopKey])
    (repeat (first
    | (apply is_ok; (case hw => simp [c1, q]); (case he => simp [c1, q]; exact is_rfl))
    | (apply op_no; (case hw => simp [c1, q]))
    | refine op_nil ?_ | refine next_normal ?_ | refine go_seq ?_ | refine go_region ?_ | refine go_skip ?_ | refine go_block ?_ | refine inb_normal ?_
    | (apply go_yes; (case hc => simp [c1, q])) | (apply go_no; (case hc => simp [c1, q]))
    | refine go_exit ?_ | refine next_exit ?_ | refine inb_here ?_ | refine inb_past (by decide) ?_ | refine go_ret ?_ | refine next_ret ?_ | refine inb_ret ?_))
    (apply ends_ok; (case h1 => simp; exact is_rfl); (case h2 => simp; exact is_rfl))
    simp [h1]
theorem sized_eq (n : Nat) : bodyW DC 56 [.int .i64 n] [] = some (.bool (decide (256 ≤ n ∧ n ≤ 32768 ∧ n % 64 = 0)), []) := by
  have q : (n : Int).tmod 64 = (n : Int) % 64 := Int.tmod_eq_emod_of_nonneg (by omega)
  by_cases h1 : 256 ≤ n
  · have c1 : (256 : Int) ≤ n := by omega
    by_cases h2 : n ≤ 32768
    · have c2 : (n : Int) ≤ 32768 := by omega
      have e : (n % 64 = 0) ↔ (n : Int) % 64 = 0 := by omega
      (refine gives_iff ?_; refine go_func Try.f56 rfl rfl (by simp [Try.f56]) ?_; dsimp only [codeL, Try.f56, scL, sopsL, guardL, dstAt, loopKey])
      (repeat (first
    | (apply is_ok; (case hw => simp [c1, c2, q]); (case he => simp [c1, c2, q]; exact is_rfl))
    | (apply op_no; (case hw => simp [c1, c2, q]))
    | refine op_nil ?_ | refine next_normal ?_ | refine go_seq ?_ | refine go_region ?_ | refine go_skip ?_ | refine go_block ?_ | refine inb_normal ?_
    | (apply go_yes; (case hc => simp [c1, c2, q])) | (apply go_no; (case hc => simp [c1, c2, q]))
    | refine go_exit ?_ | refine next_exit ?_ | refine inb_here ?_ | refine inb_past (by decide) ?_ | refine go_ret ?_ | refine next_ret ?_ | refine inb_ret ?_))
      (apply ends_ok; (case h1 => simp; exact is_rfl); (case h2 => simp; exact is_rfl))
      simp [h1, h2, e, Bool.beq_eq_decide_eq]
    · have c2 : ¬ (n : Int) ≤ 32768 := by omega
      (refine gives_iff ?_; refine go_func Try.f56 rfl rfl (by simp [Try.f56]) ?_; dsimp only [codeL, Try.f56, scL, sopsL, guardL, dstAt, loopKey])
      (repeat (first
    | (apply is_ok; (case hw => simp [c1, c2, q]); (case he => simp [c1, c2, q]; exact is_rfl))
    | (apply op_no; (case hw => simp [c1, c2, q]))
    | refine op_nil ?_ | refine next_normal ?_ | refine go_seq ?_ | refine go_region ?_ | refine go_skip ?_ | refine go_block ?_ | refine inb_normal ?_
    | (apply go_yes; (case hc => simp [c1, c2, q])) | (apply go_no; (case hc => simp [c1, c2, q]))
    | refine go_exit ?_ | refine next_exit ?_ | refine inb_here ?_ | refine inb_past (by decide) ?_ | refine go_ret ?_ | refine next_ret ?_ | refine inb_ret ?_))
      (apply ends_ok; (case h1 => simp; exact is_rfl); (case h2 => simp; exact is_rfl))
      simp [h1, h2]
  · have c1 : ¬ (256 : Int) ≤ n := by omega
    (refine gives_iff ?_; refine go_func Try.f56 rfl rfl (by simp [Try.f56]) ?_; dsimp only [codeL, Try.f56, scL, sopsL, guardL, dstAt, loopKey])
    (repeat (first
    | (apply is_ok; (case hw => simp [c1, q]); (case he => simp [c1, q]; exact is_rfl))
    | (apply op_no; (case hw => simp [c1, q]))
    | refine op_nil ?_ | refine next_normal ?_ | refine go_seq ?_ | refine go_region ?_ | refine go_skip ?_ | refine go_block ?_ | refine inb_normal ?_
    | (apply go_yes; (case hc => simp [c1, q])) | (apply go_no; (case hc => simp [c1, q]))
    | refine go_exit ?_ | refine next_exit ?_ | refine inb_here ?_ | refine inb_past (by decide) ?_ | refine go_ret ?_ | refine next_ret ?_ | refine inb_ret ?_))
    (apply ends_ok; (case h1 => simp; exact is_rfl); (case h2 => simp; exact is_rfl))
    simp [h1]

theorem last_le {bad : List Int} {i : Nat} (hi : i < bad.length) (h : (bad.take i).Pairwise (· < ·)) {a : Int} (ha : a ∈ bad.take i) : ∃ h0 : 0 < i, a ≤ bad[i - 1] := by
  obtain ⟨j, hj, rfl⟩ := List.mem_iff_getElem.1 ha
  rw [List.length_take] at hj
  refine ⟨by omega, ?_⟩
  rw [List.getElem_take]
  rw [List.pairwise_iff_getElem] at h
  rcases Nat.lt_or_ge j (i - 1) with h1 | h1
  · have := h j (i - 1) (by rw [List.length_take]; omega) (by rw [List.length_take]; omega) h1
    rw [List.getElem_take, List.getElem_take] at this
    exact Int.le_of_lt this
  · have : j = i - 1 := by omega
    subst this
    exact Int.le_refl _
theorem asc_step {bad : List Int} {i : Nat} (hi : i < bad.length) (h : (bad.take i).Pairwise (· < ·)) (hl : ∀ h0 : 0 < i, bad[i - 1] < bad[i]) : (bad.take (i + 1)).Pairwise (· < ·) := by
  rw [List.take_succ_eq_append_getElem hi, List.pairwise_append]
  refine ⟨h, List.pairwise_singleton .., fun a ha b hb => ?_⟩
  rw [List.mem_singleton] at hb
  subst hb
  obtain ⟨h0, h1⟩ := last_le hi h ha
  have := hl h0
  omega

set_option maxHeartbeats 2000000 in
theorem memRightR_eq (mem bad : List Int) (hm : mem.length ≤ 1000000) (hb : bad.length ≤ 1000000) : bodyW DC 44 [.sl (ints mem), .sl (ints bad)] [] = some (.bool (memB mem bad), []) := by
  have v1 := Size_eq (2 * mem.length)
  have w0 : IntKind.i64.wrap (2 * (mem.length : Int)) = 2 * (mem.length : Int) := wrap_id (by omega) (by omega)
  push_cast at v1
  generalize hB : memB mem bad = B
  by_cases hz : 256 ≤ 2 * mem.length ∧ 2 * mem.length ≤ 32768 ∧ 2 * mem.length % 64 = 0
  case neg =>
    rw [decide_eq_false hz] at v1
    obtain rfl : B = false := by rw [← hB]; exact memB_no fun h => hz ⟨h.lo, h.hi, h.div⟩
    (refine gives_iff ?_; refine go_func Try.f44 rfl rfl (by simp [Try.f44]) ?_; dsimp only [codeL, Try.f44, scL, sopsL, guardL, dstAt, loopKey])
    (repeat (first
    | (apply is_ok; (case hw => simp [v1, w0]); (case he => simp [v1, w0]; exact is_rfl))
    | (apply op_no; (case hw => simp [v1, w0]))
    | refine op_nil ?_ | refine next_normal ?_ | refine go_seq ?_ | refine go_region ?_ | refine go_skip ?_ | refine go_block ?_ | refine inb_normal ?_
    | (apply go_yes; (case hc => simp [v1, w0])) | (apply go_no; (case hc => simp [v1, w0]))
    | refine go_exit ?_ | refine next_exit ?_ | refine inb_here ?_ | refine inb_past (by decide) ?_ | refine go_ret ?_ | refine next_ret ?_ | refine inb_ret ?_))
    (apply ends_ok; (case h1 => simp; exact is_rfl); (case h2 => simp; exact is_rfl))
    simp
  rw [decide_eq_true hz] at v1
  (refine gives_iff ?_; refine go_func Try.f44 rfl rfl (by simp [Try.f44]) ?_; dsimp only [codeL, Try.f44, scL, sopsL, guardL, dstAt, loopKey])
  (repeat (first
    | (apply is_ok; (case hw => simp [v1, w0]); (case he => simp [v1, w0]; exact is_rfl))
    | (apply op_no; (case hw => simp [v1, w0]))
    | refine op_nil ?_ | refine next_normal ?_ | refine go_seq ?_ | refine go_region ?_ | refine go_skip ?_ | refine go_block ?_ | refine inb_normal ?_
    | (apply go_yes; (case hc => simp [v1, w0])) | (apply go_no; (case hc => simp [v1, w0]))
    | refine go_exit ?_ | refine next_exit ?_ | refine inb_here ?_ | refine inb_past (by decide) ?_ | refine go_ret ?_ | refine next_ret ?_ | refine inb_ret ?_))
  refine go_count mem.length (fun i => [(0, .sl (ints mem)), (1, .sl (ints bad)), (5, .int .i64 i)]) (fun _ => []) (fun i => ∀ j (h : j < mem.length), j < i → 0 ≤ mem[j] ∧ mem[j] ≤ 65535) (by simp) (fun j _ h => absurd h (Nat.not_lt_zero j)) fun i hi hI => ?_
  by_cases hlt : i < mem.length
  · have g1 : (i : Int) < mem.length := by omega
    have g2 : mem[i]? = some mem[i] := List.getElem?_eq_getElem hlt
    have w1 : IntKind.i64.wrap ((i : Int) + 1) = (i : Int) + 1 := wrap_id (by omega) (by omega)
    by_cases c1 : mem[i] < 0
    · obtain rfl : B = false := by
        rw [← hB]; exact memB_no fun h => by have := h.words _ (List.getElem_mem hlt); omega
      (repeat (first
    | (apply is_ok; (case hw => simp [g1, g2, hlt, c1]); (case he => simp [g1, g2, hlt, c1]; exact is_rfl))
    | (apply op_no; (case hw => simp [g1, g2, hlt, c1]))
    | refine op_nil ?_ | refine next_normal ?_ | refine go_seq ?_ | refine go_region ?_ | refine go_skip ?_ | refine go_block ?_ | refine inb_normal ?_
    | (apply go_yes; (case hc => simp [g1, g2, hlt, c1])) | (apply go_no; (case hc => simp [g1, g2, hlt, c1]))
    | refine go_exit ?_ | refine next_exit ?_ | refine inb_here ?_ | refine inb_past (by decide) ?_ | refine go_ret ?_ | refine next_ret ?_ | refine inb_ret ?_))
      (apply ends_ok; (case h1 => simp; exact is_rfl); (case h2 => simp; exact is_rfl))
      simp
    by_cases c2 : 65535 < mem[i]
    · obtain rfl : B = false := by
        rw [← hB]; exact memB_no fun h => by have := h.words _ (List.getElem_mem hlt); omega
      (repeat (first
    | (apply is_ok; (case hw => simp [g1, g2, hlt, c1, c2]); (case he => simp [g1, g2, hlt, c1, c2]; exact is_rfl))
    | (apply op_no; (case hw => simp [g1, g2, hlt, c1, c2]))
    | refine op_nil ?_ | refine next_normal ?_ | refine go_seq ?_ | refine go_region ?_ | refine go_skip ?_ | refine go_block ?_ | refine inb_normal ?_
    | (apply go_yes; (case hc => simp [g1, g2, hlt, c1, c2])) | (apply go_no; (case hc => simp [g1, g2, hlt, c1, c2]))
    | refine go_exit ?_ | refine next_exit ?_ | refine inb_here ?_ | refine inb_past (by decide) ?_ | refine go_ret ?_ | refine next_ret ?_ | refine inb_ret ?_))
      (apply ends_ok; (case h1 => simp; exact is_rfl); (case h2 => simp; exact is_rfl))
      simp
    · (repeat (first
    | (apply is_ok; (case hw => simp [g1, g2, hlt, c1, c2, w1]); (case he => simp [g1, g2, hlt, c1, c2, w1]; exact is_rfl))
    | (apply op_no; (case hw => simp [g1, g2, hlt, c1, c2, w1]))
    | refine op_nil ?_ | refine next_normal ?_ | refine go_seq ?_ | refine go_region ?_ | refine go_skip ?_ | refine go_block ?_ | refine inb_normal ?_
    | (apply go_yes; (case hc => simp [g1, g2, hlt, c1, c2, w1])) | (apply go_no; (case hc => simp [g1, g2, hlt, c1, c2, w1]))
    | refine go_exit ?_ | refine next_exit ?_ | refine inb_here ?_ | refine inb_past (by decide) ?_ | refine go_ret ?_ | refine next_ret ?_ | refine inb_ret ?_))
      exact ⟨hlt, by simp [w1], fun j h hj => by
        rcases Nat.lt_or_ge j i with h1 | h1
        · exact hI j h h1
        · have : j = i := by omega
          subst this
          omega⟩
  have hW : Words mem := fun w hw => by
    obtain ⟨j, hj, rfl⟩ := List.mem_iff_getElem.1 hw
    exact hI j hj (by omega)
  have g1 : ¬ (i : Int) < mem.length := by omega
  (repeat (first
    | (apply is_ok; (case hw => simp [g1]); (case he => simp [g1]; exact is_rfl))
    | (apply op_no; (case hw => simp [g1]))
    | refine op_nil ?_ | refine next_normal ?_ | refine go_seq ?_ | refine go_region ?_ | refine go_skip ?_ | refine go_block ?_ | refine inb_normal ?_
    | (apply go_yes; (case hc => simp [g1])) | (apply go_no; (case hc => simp [g1]))
    | refine go_exit ?_ | refine next_exit ?_ | refine inb_here ?_ | refine inb_past (by decide) ?_ | refine go_ret ?_ | refine next_ret ?_ | refine inb_ret ?_))
  refine go_count bad.length (fun i => [(0, .sl (ints mem)), (1, .sl (ints bad)), (6, .int .i64 i)]) (fun _ => []) (fun i => (∀ a ∈ bad.take i, 0 ≤ a ∧ a < 2 * mem.length ∧ a % 2 = 0) ∧ (bad.take i).Pairwise (· < ·)) (by simp) (by simp) fun k hk hK => ?_
  by_cases hlt : k < bad.length
  · have g3 : (k : Int) < bad.length := by omega
    have g4 : bad[k]? = some bad[k] := List.getElem?_eq_getElem hlt
    have w1 : IntKind.i64.wrap ((k : Int) + 1) = (k : Int) + 1 := wrap_id (by omega) (by omega)
    have mk := List.getElem_mem hlt
    by_cases c1 : bad[k] < 0
    · obtain rfl : B = false := by
        rw [← hB]; exact memB_no fun h => by have := h.ok _ mk; omega
      (repeat (first
    | (apply is_ok; (case hw => simp [g3, g4, hlt, c1]); (case he => simp [g3, g4, hlt, c1]; exact is_rfl))
    | (apply op_no; (case hw => simp [g3, g4, hlt, c1]))
    | refine op_nil ?_ | refine next_normal ?_ | refine go_seq ?_ | refine go_region ?_ | refine go_skip ?_ | refine go_block ?_ | refine inb_normal ?_
    | (apply go_yes; (case hc => simp [g3, g4, hlt, c1])) | (apply go_no; (case hc => simp [g3, g4, hlt, c1]))
    | refine go_exit ?_ | refine next_exit ?_ | refine inb_here ?_ | refine inb_past (by decide) ?_ | refine go_ret ?_ | refine next_ret ?_ | refine inb_ret ?_))
      (apply ends_ok; (case h1 => simp; exact is_rfl); (case h2 => simp; exact is_rfl))
      simp
    by_cases c2 : 2 * (mem.length : Int) ≤ bad[k]
    · obtain rfl : B = false := by
        rw [← hB]; exact memB_no fun h => by have := h.ok _ mk; omega
      (repeat (first
    | (apply is_ok; (case hw => simp [g3, g4, hlt, c1, c2, w0]); (case he => simp [g3, g4, hlt, c1, c2, w0]; exact is_rfl))
    | (apply op_no; (case hw => simp [g3, g4, hlt, c1, c2, w0]))
    | refine op_nil ?_ | refine next_normal ?_ | refine go_seq ?_ | refine go_region ?_ | refine go_skip ?_ | refine go_block ?_ | refine inb_normal ?_
    | (apply go_yes; (case hc => simp [g3, g4, hlt, c1, c2, w0])) | (apply go_no; (case hc => simp [g3, g4, hlt, c1, c2, w0]))
    | refine go_exit ?_ | refine next_exit ?_ | refine inb_here ?_ | refine inb_past (by decide) ?_ | refine go_ret ?_ | refine next_ret ?_ | refine inb_ret ?_))
      (apply ends_ok; (case h1 => simp; exact is_rfl); (case h2 => simp; exact is_rfl))
      simp
    have q : bad[k].tmod 2 = bad[k] % 2 := Int.tmod_eq_emod_of_nonneg (by omega)
    by_cases c3 : bad[k] % 2 = 0
    case neg =>
      obtain rfl : B = false := by
        rw [← hB]; exact memB_no fun h => c3 (h.ok _ mk).2.2
      (repeat (first
    | (apply is_ok; (case hw => simp [g3, g4, hlt, c1, c2, c3, w0, q]); (case he => simp [g3, g4, hlt, c1, c2, c3, w0, q]; exact is_rfl))
    | (apply op_no; (case hw => simp [g3, g4, hlt, c1, c2, c3, w0, q]))
    | refine op_nil ?_ | refine next_normal ?_ | refine go_seq ?_ | refine go_region ?_ | refine go_skip ?_ | refine go_block ?_ | refine inb_normal ?_
    | (apply go_yes; (case hc => simp [g3, g4, hlt, c1, c2, c3, w0, q])) | (apply go_no; (case hc => simp [g3, g4, hlt, c1, c2, c3, w0, q]))
    | refine go_exit ?_ | refine next_exit ?_ | refine inb_here ?_ | refine inb_past (by decide) ?_ | refine go_ret ?_ | refine next_ret ?_ | refine inb_ret ?_))
      (apply ends_ok; (case h1 => simp; exact is_rfl); (case h2 => simp; exact is_rfl))
      simp
    have nk : ∀ (hl : ∀ h0 : 0 < k, bad[k - 1] < bad[k]), (∀ a ∈ bad.take (k + 1), 0 ≤ a ∧ a < 2 * mem.length ∧ a % 2 = 0) ∧ (bad.take (k + 1)).Pairwise (· < ·) := fun hl => by
      refine ⟨fun a ha => ?_, asc_step hlt hK.2 hl⟩
      rw [List.take_succ_eq_append_getElem hlt, List.mem_append, List.mem_singleton] at ha
      rcases ha with ha | rfl
      · exact hK.1 a ha
      · exact ⟨by omega, by omega, c3⟩
    rcases Nat.eq_zero_or_pos k with k0 | k0
    · subst k0
      (repeat (first
    | (apply is_ok; (case hw => simp [g3, g4, hlt, c1, c2, c3, w0, w1, q]); (case he => simp [g3, g4, hlt, c1, c2, c3, w0, w1, q]; exact is_rfl))
    | (apply op_no; (case hw => simp [g3, g4, hlt, c1, c2, c3, w0, w1, q]))
    | refine op_nil ?_ | refine next_normal ?_ | refine go_seq ?_ | refine go_region ?_ | refine go_skip ?_ | refine go_block ?_ | refine inb_normal ?_
    | (apply go_yes; (case hc => simp [g3, g4, hlt, c1, c2, c3, w0, w1, q])) | (apply go_no; (case hc => simp [g3, g4, hlt, c1, c2, c3, w0, w1, q]))
    | refine go_exit ?_ | refine next_exit ?_ | refine inb_here ?_ | refine inb_past (by decide) ?_ | refine go_ret ?_ | refine next_ret ?_ | refine inb_ret ?_))
      exact ⟨hlt, by simp [w1], nk fun h => absurd h (by decide)⟩
    · obtain ⟨m, hmk⟩ : ∃ m, m = k - 1 := ⟨_, rfl⟩
      have w2 : IntKind.i64.wrap ((k : Int) - 1) = (m : Int) := by rw [wrap_id (by omega) (by omega)]; omega
      have hlm : m < bad.length := by omega
      have g5 : bad[m]? = some bad[m] := List.getElem?_eq_getElem hlm
      have g6 : (0 : Int) < (k : Int) := by omega
      by_cases c4 : bad[k] ≤ bad[m]
      · obtain rfl : B = false := by
          rw [← hB]; exact memB_no fun h => by
            have := List.pairwise_iff_getElem.1 h.asc m k hlm hlt (by omega)
            omega
        (repeat (first
    | (apply is_ok; (case hw => simp [g3, g4, g5, g6, k0, hlm, hlt, c1, c2, c3, c4, w0, w1, w2, q]); (case he => simp [g3, g4, g5, g6, k0, hlm, hlt, c1, c2, c3, c4, w0, w1, w2, q]; exact is_rfl))
    | (apply op_no; (case hw => simp [g3, g4, g5, g6, k0, hlm, hlt, c1, c2, c3, c4, w0, w1, w2, q]))
    | refine op_nil ?_ | refine next_normal ?_ | refine go_seq ?_ | refine go_region ?_ | refine go_skip ?_ | refine go_block ?_ | refine inb_normal ?_
    | (apply go_yes; (case hc => simp [g3, g4, g5, g6, k0, hlm, hlt, c1, c2, c3, c4, w0, w1, w2, q])) | (apply go_no; (case hc => simp [g3, g4, g5, g6, k0, hlm, hlt, c1, c2, c3, c4, w0, w1, w2, q]))
    | refine go_exit ?_ | refine next_exit ?_ | refine inb_here ?_ | refine inb_past (by decide) ?_ | refine go_ret ?_ | refine next_ret ?_ | refine inb_ret ?_))
        (apply ends_ok; (case h1 => simp; exact is_rfl); (case h2 => simp; exact is_rfl))
        simp
      · have nk2 := nk fun _ => by
          have e : bad[k - 1]'(by omega) = bad[m] := by simp only [hmk]
          rw [e]
          omega
        (repeat (first
    | (apply is_ok; (case hw => simp [g3, g4, g5, g6, k0, hlm, hlt, c1, c2, c3, c4, w0, w1, w2, q]); (case he => simp [g3, g4, g5, g6, k0, hlm, hlt, c1, c2, c3, c4, w0, w1, w2, q]; exact is_rfl))
    | (apply op_no; (case hw => simp [g3, g4, g5, g6, k0, hlm, hlt, c1, c2, c3, c4, w0, w1, w2, q]))
    | refine op_nil ?_ | refine next_normal ?_ | refine go_seq ?_ | refine go_region ?_ | refine go_skip ?_ | refine go_block ?_ | refine inb_normal ?_
    | (apply go_yes; (case hc => simp [g3, g4, g5, g6, k0, hlm, hlt, c1, c2, c3, c4, w0, w1, w2, q])) | (apply go_no; (case hc => simp [g3, g4, g5, g6, k0, hlm, hlt, c1, c2, c3, c4, w0, w1, w2, q]))
    | refine go_exit ?_ | refine next_exit ?_ | refine inb_here ?_ | refine inb_past (by decide) ?_ | refine go_ret ?_ | refine next_ret ?_ | refine inb_ret ?_))
        exact ⟨hlt, by simp [w1], nk2⟩
  · have : k = bad.length := by omega
    subst this
    rw [List.take_length] at hK
    obtain rfl : B = true := by rw [← hB]; exact memB_yes ⟨hz.1, hz.2.1, hz.2.2, hW, hK.1, hK.2⟩
    have g3 : ¬ (bad.length : Int) < bad.length := by omega
    (repeat (first
    | (apply is_ok; (case hw => simp [g3]); (case he => simp [g3]; exact is_rfl))
    | (apply op_no; (case hw => simp [g3]))
    | refine op_nil ?_ | refine next_normal ?_ | refine go_seq ?_ | refine go_region ?_ | refine go_skip ?_ | refine go_block ?_ | refine inb_normal ?_
    | (apply go_yes; (case hc => simp [g3])) | (apply go_no; (case hc => simp [g3]))
    | refine go_exit ?_ | refine next_exit ?_ | refine inb_here ?_ | refine inb_past (by decide) ?_ | refine go_ret ?_ | refine next_ret ?_ | refine inb_ret ?_))
    (apply ends_ok; (case h1 => simp; exact is_rfl); (case h2 => simp; exact is_rfl))
    simp

theorem and_ffff (x : Int) : IntKind.i64.wrap ((BitVec.ofInt 64 x &&& 65535#64).toNat : Int) = x % 65536 := by
  have h : (BitVec.ofInt 64 x &&& 65535#64).toNat = (x % 18446744073709551616).toNat % 65536 := by
    rw [BitVec.toNat_and, BitVec.toNat_ofInt]
    exact Nat.and_two_pow_sub_one_eq_mod _ 16
  rw [h, wrap_id (by omega) (by omega)]
  omega
theorem intOp_andF (x : Int) : intOp .and .i64 x 65535 = some (.int .i64 (x % 65536)) := by
  show some (V.int .i64 (IntKind.i64.wrap ((BitVec.ofInt 64 x &&& BitVec.ofInt 64 65535).toNat : Int))) = _
  rw [show BitVec.ofInt 64 65535 = 65535#64 from rfl, and_ffff x]
theorem intOp_add' (k : IntKind) (a b : Int) : intOp .add k a b = some (.int k (k.wrap (a + b))) := rfl
theorem intOp_mul' (k : IntKind) (a b : Int) : intOp .mul k a b = some (.int k (k.wrap (a * b))) := rfl
theorem intOp_eql' (k : IntKind) (a b : Int) : intOp .eql k a b = some (.bool (a == b)) := rfl
theorem intOp_neq' (k : IntKind) (a b : Int) : intOp .neq k a b = some (.bool (a != b)) := rfl
theorem intOp_lss' (k : IntKind) (a b : Int) : intOp .lss k a b = some (.bool (decide (a < b))) := rfl

theorem memRight_ok (mem bad : List Int) (hb : bad.length ≤ 1000000) (h : MemP mem bad) : bodyW DC 27 [.sl (ints mem), .sl (ints bad)] [] = some (.bool true, []) := by
  have hm := h.hi
  have v1 := sized_eq (2 * mem.length)
  have w0 : IntKind.i64.wrap (2 * (mem.length : Int)) = 2 * (mem.length : Int) := wrap_id (by omega) (by omega)
  push_cast at v1
  rw [decide_eq_true (show 256 ≤ 2 * mem.length ∧ 2 * mem.length ≤ 32768 ∧ 2 * mem.length % 64 = 0 from ⟨h.lo, h.hi, h.div⟩)] at v1
  (refine gives_iff ?_; refine go_func Try.f27 rfl rfl (by simp [Try.f27]) ?_; dsimp only [codeL, Try.f27, scL, sopsL, guardL, dstAt, loopKey])
  (repeat (first
    | (apply is_ok; (case hw => simp [v1, w0]); (case he => simp [v1, w0]; exact is_rfl))
    | (apply op_no; (case hw => simp [v1, w0]))
    | refine op_nil ?_ | refine next_normal ?_ | refine go_seq ?_ | refine go_region ?_ | refine go_skip ?_ | refine go_block ?_ | refine inb_normal ?_
    | (apply go_yes; (case hc => simp [v1, w0])) | (apply go_no; (case hc => simp [v1, w0]))
    | refine go_exit ?_ | refine next_exit ?_ | refine inb_here ?_ | refine inb_past (by decide) ?_ | refine go_ret ?_ | refine next_ret ?_ | refine inb_ret ?_))
  refine go_count mem.length (fun i => [(0, .sl (ints mem)), (1, .sl (ints bad)), (15, .sl (ints mem)), (16, .int .i64 mem.length), (17, .int .i64 i)]) (fun _ => []) (fun i => True) (by simp) trivial fun i hi _ => ?_
  by_cases hlt : i < mem.length
  · have g1 : (i : Int) < mem.length := by omega
    have g2 : mem[i]? = some mem[i] := List.getElem?_eq_getElem hlt
    have w1 : IntKind.i64.wrap ((i : Int) + 1) = (i : Int) + 1 := wrap_id (by omega) (by omega)
    have c1 := h.words _ (List.getElem_mem hlt)
    have c2 : mem[i] % 65536 = mem[i] := by omega
    (repeat (first
    | (apply is_ok; (case hw => simp [-intOp, intOp_andF, intOp_add', intOp_neq', intOp_lss', g1, g2, hlt, c2, w1]); (case he => simp [-intOp, intOp_andF, intOp_add', intOp_neq', intOp_lss', g1, g2, hlt, c2, w1]; exact is_rfl))
    | (apply op_no; (case hw => simp [-intOp, intOp_andF, intOp_add', intOp_neq', intOp_lss', g1, g2, hlt, c2, w1]))
    | refine op_nil ?_ | refine next_normal ?_ | refine go_seq ?_ | refine go_region ?_ | refine go_skip ?_ | refine go_block ?_ | refine inb_normal ?_
    | (apply go_yes; (case hc => simp [-intOp, intOp_andF, intOp_add', intOp_neq', intOp_lss', g1, g2, hlt, c2, w1])) | (apply go_no; (case hc => simp [-intOp, intOp_andF, intOp_add', intOp_neq', intOp_lss', g1, g2, hlt, c2, w1]))
    | refine go_exit ?_ | refine next_exit ?_ | refine inb_here ?_ | refine inb_past (by decide) ?_ | refine go_ret ?_ | refine next_ret ?_ | refine inb_ret ?_))
    exact ⟨hlt, by simp [w1], trivial⟩
  have g1 : ¬ (i : Int) < mem.length := by omega
  (repeat (first
    | (apply is_ok; (case hw => simp [g1]); (case he => simp [g1]; exact is_rfl))
    | (apply op_no; (case hw => simp [g1]))
    | refine op_nil ?_ | refine next_normal ?_ | refine go_seq ?_ | refine go_region ?_ | refine go_skip ?_ | refine go_block ?_ | refine inb_normal ?_
    | (apply go_yes; (case hc => simp [g1])) | (apply go_no; (case hc => simp [g1]))
    | refine go_exit ?_ | refine next_exit ?_ | refine inb_here ?_ | refine inb_past (by decide) ?_ | refine go_ret ?_ | refine next_ret ?_ | refine inb_ret ?_))
  refine go_count bad.length (fun i => [(0, .sl (ints mem)), (7, .int .i64 (if h : 0 < i ∧ i ≤ bad.length then bad[i - 1]'(by omega) else -1)), (26, .sl (ints bad)), (27, .int .i64 bad.length), (28, .int .i64 i)]) (fun _ => []) (fun i => True) (by simp) trivial fun k hk _ => ?_
  by_cases hlt : k < bad.length
  · have g3 : (k : Int) < bad.length := by omega
    have g4 : bad[k]? = some bad[k] := List.getElem?_eq_getElem hlt
    have w1 : IntKind.i64.wrap ((k : Int) + 1) = (k : Int) + 1 := wrap_id (by omega) (by omega)
    obtain ⟨c1, c2, c3⟩ := h.ok _ (List.getElem_mem hlt)
    have q : bad[k].tmod 2 = 0 := by rw [Int.tmod_eq_emod_of_nonneg c1]; exact c3
    have c4 : ¬ 2 * (mem.length : Int) ≤ bad[k] := by omega
    have e1 : (if h : 0 < k + 1 ∧ k + 1 ≤ bad.length then bad[k + 1 - 1]'(by omega) else -1) = bad[k] := by rw [dif_pos ⟨by omega, by omega⟩]; rfl
    rw [e1]
    have c5 : ¬ bad[k] ≤ (if h : 0 < k ∧ k ≤ bad.length then bad[k - 1]'(by omega) else -1) := by
      split
      · rename_i h0
        have := List.pairwise_iff_getElem.1 h.asc (k - 1) k (by omega) hlt (by omega)
        omega
      · omega
    generalize (if h : 0 < k ∧ k ≤ bad.length then bad[k - 1]'(by omega) else -1) = L at c5
    (repeat (first
    | (apply is_ok; (case hw => simp [g3, g4, hlt, c4, c5, q, w0, w1]); (case he => simp [g3, g4, hlt, c4, c5, q, w0, w1]; exact is_rfl))
    | (apply op_no; (case hw => simp [g3, g4, hlt, c4, c5, q, w0, w1]))
    | refine op_nil ?_ | refine next_normal ?_ | refine go_seq ?_ | refine go_region ?_ | refine go_skip ?_ | refine go_block ?_ | refine inb_normal ?_
    | (apply go_yes; (case hc => simp [g3, g4, hlt, c4, c5, q, w0, w1])) | (apply go_no; (case hc => simp [g3, g4, hlt, c4, c5, q, w0, w1]))
    | refine go_exit ?_ | refine next_exit ?_ | refine inb_here ?_ | refine inb_past (by decide) ?_ | refine go_ret ?_ | refine next_ret ?_ | refine inb_ret ?_))
    exact ⟨hlt, by simp [w1], trivial⟩
  · have g3 : ¬ (k : Int) < bad.length := by omega
    generalize (if h : 0 < k ∧ k ≤ bad.length then bad[k - 1]'(by omega) else -1) = L
    (repeat (first
    | (apply is_ok; (case hw => simp [g3]); (case he => simp [g3]; exact is_rfl))
    | (apply op_no; (case hw => simp [g3]))
    | refine op_nil ?_ | refine next_normal ?_ | refine go_seq ?_ | refine go_region ?_ | refine go_skip ?_ | refine go_block ?_ | refine inb_normal ?_
    | (apply go_yes; (case hc => simp [g3])) | (apply go_no; (case hc => simp [g3]))
    | refine go_exit ?_ | refine next_exit ?_ | refine inb_here ?_ | refine inb_past (by decide) ?_ | refine go_ret ?_ | refine next_ret ?_ | refine inb_ret ?_))
    (apply ends_ok; (case h1 => simp; exact is_rfl); (case h2 => simp; exact is_rfl))
    simp
end Go.Abs

namespace Go.Abs
open Go.Proofs
set_option maxRecDepth 100000
set_option linter.unusedSimpArgs false
set_option linter.unusedVariables false

theorem right_len {S : List (List UInt8)} {B : List Int} (h : RightP S B) : B.length ≤ S.length := by
  obtain ⟨h1, h2, h3, h4, h5⟩ := h
  have key : ∀ i, i < B.length → (i : Int) ≤ B.getD i 0 := fun i => by
    induction i with
    | zero =>
      intro hi
      have := h4 B[0] (List.getElem_mem hi)
      rw [List.getD_eq_getElem?_getD, List.getElem?_eq_getElem hi]
      exact this.1
    | succ i ih =>
      intro hi
      have h6 := ih (by omega)
      have h7 := h5 (i + 1) (List.mem_range.2 hi) (by omega)
      rw [Nat.add_sub_cancel] at h7
      omega
  rcases Nat.eq_zero_or_pos B.length with h0 | h0
  · omega
  · have h6 := key (B.length - 1) (by omega)
    have h7 := h4 (B.getD (B.length - 1) 0) (by rw [List.getD_eq_getElem?_getD, List.getElem?_eq_getElem (by omega)]; exact List.getElem_mem _)
    omega

noncomputable def fewB (s : Sys) : Bool := decide (s.mem.length ≤ 1024) && decide (s.bad.length ≤ 1024) && decide (s.S.length ≤ 64) && memB s.mem s.bad && decide (RightP s.S s.B)
theorem few_eq (s : Sys) (hs : s.Wf) : bodyW DC 22 [.agg s.cells] [] = some (.bool (fewB s), []) := by
  have v2 := RightR_eq s.S s.B hs.B
  unfold fewB
  by_cases h1 : s.mem.length ≤ 1024
  · have c1 : (s.mem.length : Int) ≤ 1024 := by omega
    by_cases h2 : s.bad.length ≤ 1024
    · have c2 : (s.bad.length : Int) ≤ 1024 := by omega
      by_cases h3 : s.S.length ≤ 64
      · have c3 : (s.S.length : Int) ≤ 64 := by omega
        have v1 := memRightR_eq s.mem s.bad (by omega) (by omega)
        generalize decide (RightP s.S s.B) = q at v2
        cases hq : memB s.mem s.bad <;>
        · rw [hq] at v1
          (refine gives_iff ?_; refine go_func Try.f22 rfl rfl (by simp [Try.f22]) ?_; dsimp only [codeL, Try.f22, scL, sopsL, guardL, dstAt, loopKey])
          (repeat (first
    | (apply is_ok; (case hw => simp [c1, c2, c3, v1, v2]); (case he => simp [c1, c2, c3, v1, v2]; exact is_rfl))
    | (apply op_no; (case hw => simp [c1, c2, c3, v1, v2]))
    | refine op_nil ?_ | refine next_normal ?_ | refine go_seq ?_ | refine go_region ?_ | refine go_skip ?_ | refine go_block ?_ | refine inb_normal ?_
    | (apply go_yes; (case hc => simp [c1, c2, c3, v1, v2])) | (apply go_no; (case hc => simp [c1, c2, c3, v1, v2]))
    | refine go_exit ?_ | refine next_exit ?_ | refine inb_here ?_ | refine inb_past (by decide) ?_ | refine go_ret ?_ | refine next_ret ?_ | refine inb_ret ?_))
          (apply ends_ok; (case h1 => simp; exact is_rfl); (case h2 => simp; exact is_rfl))
          simp [h1, h2, h3]
      · have c3 : ¬ (s.S.length : Int) ≤ 64 := by omega
        (refine gives_iff ?_; refine go_func Try.f22 rfl rfl (by simp [Try.f22]) ?_; dsimp only [codeL, Try.f22, scL, sopsL, guardL, dstAt, loopKey])
        (repeat (first
    | (apply is_ok; (case hw => simp [c1, c2, c3]); (case he => simp [c1, c2, c3]; exact is_rfl))
    | (apply op_no; (case hw => simp [c1, c2, c3]))
    | refine op_nil ?_ | refine next_normal ?_ | refine go_seq ?_ | refine go_region ?_ | refine go_skip ?_ | refine go_block ?_ | refine inb_normal ?_
    | (apply go_yes; (case hc => simp [c1, c2, c3])) | (apply go_no; (case hc => simp [c1, c2, c3]))
    | refine go_exit ?_ | refine next_exit ?_ | refine inb_here ?_ | refine inb_past (by decide) ?_ | refine go_ret ?_ | refine next_ret ?_ | refine inb_ret ?_))
        (apply ends_ok; (case h1 => simp; exact is_rfl); (case h2 => simp; exact is_rfl))
        simp [h3]
    · have c2 : ¬ (s.bad.length : Int) ≤ 1024 := by omega
      (refine gives_iff ?_; refine go_func Try.f22 rfl rfl (by simp [Try.f22]) ?_; dsimp only [codeL, Try.f22, scL, sopsL, guardL, dstAt, loopKey])
      (repeat (first
    | (apply is_ok; (case hw => simp [c1, c2]); (case he => simp [c1, c2]; exact is_rfl))
    | (apply op_no; (case hw => simp [c1, c2]))
    | refine op_nil ?_ | refine next_normal ?_ | refine go_seq ?_ | refine go_region ?_ | refine go_skip ?_ | refine go_block ?_ | refine inb_normal ?_
    | (apply go_yes; (case hc => simp [c1, c2])) | (apply go_no; (case hc => simp [c1, c2]))
    | refine go_exit ?_ | refine next_exit ?_ | refine inb_here ?_ | refine inb_past (by decide) ?_ | refine go_ret ?_ | refine next_ret ?_ | refine inb_ret ?_))
      (apply ends_ok; (case h1 => simp; exact is_rfl); (case h2 => simp; exact is_rfl))
      simp [h2]
  · have c1 : ¬ (s.mem.length : Int) ≤ 1024 := by omega
    (refine gives_iff ?_; refine go_func Try.f22 rfl rfl (by simp [Try.f22]) ?_; dsimp only [codeL, Try.f22, scL, sopsL, guardL, dstAt, loopKey])
    (repeat (first
    | (apply is_ok; (case hw => simp [c1]); (case he => simp [c1]; exact is_rfl))
    | (apply op_no; (case hw => simp [c1]))
    | refine op_nil ?_ | refine next_normal ?_ | refine go_seq ?_ | refine go_region ?_ | refine go_skip ?_ | refine go_block ?_ | refine inb_normal ?_
    | (apply go_yes; (case hc => simp [c1])) | (apply go_no; (case hc => simp [c1]))
    | refine go_exit ?_ | refine next_exit ?_ | refine inb_here ?_ | refine inb_past (by decide) ?_ | refine go_ret ?_ | refine next_ret ?_ | refine inb_ret ?_))
    (apply ends_ok; (case h1 => simp; exact is_rfl); (case h2 => simp; exact is_rfl))
    simp [h1]

/-- A system of the laws. -/
structure Nice (s : Sys) : Prop where
  wf : s.Wf
  fine : Fine s
  mem : MemP s.mem s.bad
  drv : RightP s.S s.B
  badl : s.bad.length ≤ 1024
theorem nice_of {s : Sys} (hs : s.Wf) (h1 : fewB s = true) (h2 : rightB s = true) : Nice s := by
  unfold fewB at h1
  simp only [Bool.and_eq_true, decide_eq_true_eq] at h1
  obtain ⟨⟨⟨⟨a1, a2⟩, a3⟩, a4⟩, a5⟩ := h1
  have hm := memB_iff.1 a4
  have hr : rightP s := by
    by_cases hc : rightP s
    · exact hc
    · rw [rightB_no hc] at h2; cases h2
  rw [rightB_yes hr, Bool.and_eq_true] at h2
  exact ⟨hs, ⟨a1, a3, by have := right_len a5; omega, hm.words, hr, apB_iff.1 h2.1, apB_iff.1 h2.2⟩, hm, a5, a2⟩

/-- A process is swapped out: which one, where to, and the sectors behind. -/
structure OutOk (s : Sys) (k : Int) (i : Nat) (p : Pr) (n0 : Int) (T : List (List UInt8)) : Prop where
  hk : k = i
  hp : s.ps[i]? = some p
  has : hasP p
  swd : p.swd = false
  fit : fitN (swpL s.ps) s.sw (secN p.blk) = some n0
  ok : OkAll s.S.length s.B (outW (bytesL s.mem (p.base.toNat * 64) (p.blk.toNat * 64)) n0 (secN p.blk).toNat)
  hT : T = puts s.S (outW (bytesL s.mem (p.base.toNat * 64) (p.blk.toNat * 64)) n0 (secN p.blk).toNat)
  run : bodyW DC 23 [.agg s.cells, .int .i64 k] [] = some (.tuple [.agg ((s.setP i { p with base := n0, swd := true }).cw (.sl (ints s.mem)) (.sl (ints s.bad)) (.own 0 s.S.length 0 s.S.length) (.own 1 s.B.length 0 s.B.length)), .int .i64 0], [.dat true 1 (strs T), .dat true 1 (ints s.B)])

theorem Out_cases (s : Sys) (h : Nice s) (k : Int) : (∃ e, e ≠ 0 ∧ bodyW DC 23 [.agg s.cells, .int .i64 k] [] = some (.tuple [.agg zN, .int .i64 e], [])) ∨ ∃ i p n0 T, OutOk s k i p n0 T := by
  cases hb : imgB s.ps k false with
  | false => exact .inl ⟨1, by decide, Out_no s k hb⟩
  | true =>
    obtain ⟨i, p, rfl, hp, h1, h2⟩ := imgB_iff.1 hb
    cases hf : fitN (swpL s.ps) s.sw (secN p.blk) with
    | none => exact .inl ⟨12, by decide, Out_full s h.fine i p hp h1 h2 h.wf.ps hf⟩
    | some n0 =>
      obtain ⟨c1, c2, c3, c4, c5, c6⟩ := core_in h.fine (List.mem_of_getElem? hp) h1 h2
      obtain ⟨s1, s2, s3⟩ := secN_bound c4 c5
      have hroom := ((fit_least (l := swpL s.ps) (w := s.sw) (k := secN p.blk) s1).1 n0 hf).1
      have u := h.fine.right.2.1
      have r1 := hroom.2.1
      have r2 := hroom.2.2
      have u1 := u.1
      have u2 := u.2.1
      have u3 := u.2.2.2
      have hw := Out_walk s h.fine i p hp h1 h2 h.wf.ps n0 hf ⟨by omega, by omega⟩
      by_cases hz : (outR s p n0).2.2 = 0
      · rw [if_pos hz] at hw
        have hok : OkAll s.S.length s.B (outW (bytesL s.mem (p.base.toNat * 64) (p.blk.toNat * 64)) n0 (secN p.blk).toNat) := by
          by_cases hc : OkAll s.S.length s.B (outW (bytesL s.mem (p.base.toNat * 64) (p.blk.toNat * 64)) n0 (secN p.blk).toNat)
          · exact hc
          · exact absurd hz (applyS_err s.B _ _ 0 hc).1
        have hT : (outR s p n0).1 = puts s.S (outW (bytesL s.mem (p.base.toNat * 64) (p.blk.toNat * 64)) n0 (secN p.blk).toNat) := by
          unfold outR
          rw [applyS_all s.B _ _ 0 hok]
        exact .inr ⟨i, p, n0, (outR s p n0).1, rfl, hp, h1, h2, hf, hok, hT, hw⟩
      · rw [if_neg hz] at hw
        exact .inl ⟨_, hz, hw⟩

/-- A process is swapped in. -/
structure InOk (s : Sys) (k : Int) (i : Nat) (p : Pr) (n0 : Int) (M Z : List Int) (c : Nat) : Prop where
  hk : k = i
  hp : s.ps[i]? = some p
  has : hasP p
  swd : p.swd = true
  fit : fitN (coreL s.ps) s.co p.blk = some n0
  hM : M = storeN s.mem (n0.toNat * 64) (inT s p) (inT s p).length
  hZ : Z = (s.bad.filter fun a => !inR (n0 * 64) (p.blk * 64) a) ++ List.replicate (s.bad.length - (s.bad.filter fun a => !inR (n0 * 64) (p.blk * 64) a).length) 0
  hc : c = (s.bad.filter fun a => !inR (n0 * 64) (p.blk * 64) a).length
  run : bodyW DC 24 [.agg s.cells, .int .i64 k] [] = some (.tuple [.agg ((s.setP i { p with base := n0, swd := false }).cw (.own 0 s.mem.length 0 s.mem.length) (.own 1 s.bad.length 0 c) (.sl (strs s.S)) (.sl (ints s.B))), .int .i64 0], [.dat true 1 (ints M), .dat true 1 (ints Z)])

theorem In_cases (s : Sys) (h : Nice s) (k : Int) : (∃ e, e ≠ 0 ∧ bodyW DC 24 [.agg s.cells, .int .i64 k] [] = some (.tuple [.agg zN, .int .i64 e], [])) ∨ ∃ i p n0 M Z c, InOk s k i p n0 M Z c := by
  cases hb : imgB s.ps k true with
  | false => exact .inl ⟨1, by decide, In_no s k hb⟩
  | true =>
    obtain ⟨i, p, rfl, hp, h1, h2⟩ := imgB_iff.1 hb
    cases hf : fitN (coreL s.ps) s.co p.blk with
    | none => exact .inl ⟨26, by decide, In_full s h.fine i p hp h1 h2 hf⟩
    | some n0 =>
      by_cases hall : ∀ j : Nat, (j : Int) < secN p.blk → (readS s.S s.B (p.base + j)).2 = 0
      · exact .inr ⟨i, p, n0, _, _, _, rfl, hp, h1, h2, hf, rfl, rfl, rfl, In_ok s h.fine i p hp h1 h2 h.wf.ps h.badl h.drv n0 hf hall⟩
      · have hex : ∃ j : Nat, (j : Int) < secN p.blk ∧ (readS s.S s.B (p.base + j)).2 ≠ 0 := by
          by_cases hc : ∃ j : Nat, (j : Int) < secN p.blk ∧ (readS s.S s.B (p.base + j)).2 ≠ 0
          · exact hc
          · exact absurd (fun j hj => Classical.byContradiction fun hn => hc ⟨j, hj, hn⟩) hall
        have hwf : ∀ m : Nat, ∀ j : Nat, j ≤ m → (j : Int) < secN p.blk → (readS s.S s.B (p.base + j)).2 ≠ 0 → ∃ j0 : Nat, (j0 : Int) < secN p.blk ∧ (readS s.S s.B (p.base + j0)).2 ≠ 0 ∧ ∀ q : Nat, q < j0 → (readS s.S s.B (p.base + q)).2 = 0 := by
          intro m
          induction m with
          | zero => intro j hj h3 h4; exact ⟨j, h3, h4, fun q hq => by omega⟩
          | succ m ih =>
            intro j hj h3 h4
            by_cases hq : ∃ q : Nat, q < j ∧ (readS s.S s.B (p.base + q)).2 ≠ 0
            · obtain ⟨q, q1, q2⟩ := hq
              exact ih q (by omega) (by omega) q2
            · exact ⟨j, h3, h4, fun q hq' => Classical.byContradiction fun hn => hq ⟨q, hq', hn⟩⟩
        obtain ⟨j, h3, h4⟩ := hex
        obtain ⟨j0, a1, a2, a3⟩ := hwf j j (Nat.le_refl _) h3 h4
        exact .inl ⟨_, a2, In_err s h.fine i p hp h1 h2 h.wf.ps h.drv n0 hf j0 a1 a2 a3⟩
end Go.Abs

namespace Go.Abs
open Go.Proofs
set_option maxRecDepth 100000
set_option linter.unusedSimpArgs false
set_option linter.unusedVariables false

theorem sameI_refl (l : List Int) (hl : l.length ≤ 1000000) : bodyW DC 26 [.sl (ints l), .sl (ints l)] [] = some (.bool true, []) := by
  (refine gives_iff ?_; refine go_func Try.f26 rfl rfl (by simp [Try.f26]) ?_; dsimp only [codeL, Try.f26, scL, sopsL, guardL, dstAt, loopKey])
  (repeat (first
    | (apply is_ok; (case hw => simp); (case he => simp; exact is_rfl))
    | (apply op_no; (case hw => simp))
    | refine op_nil ?_ | refine next_normal ?_ | refine go_seq ?_ | refine go_region ?_ | refine go_skip ?_ | refine go_block ?_ | refine inb_normal ?_
    | (apply go_yes; (case hc => simp)) | (apply go_no; (case hc => simp))
    | refine go_exit ?_ | refine next_exit ?_ | refine inb_here ?_ | refine inb_past (by decide) ?_ | refine go_ret ?_ | refine next_ret ?_ | refine inb_ret ?_))
  refine go_count l.length (fun i => [(0, .sl (ints l)), (1, .sl (ints l)), (5, .int .i64 i)]) (fun _ => []) (fun _ => True) (by simp) trivial fun i hi _ => ?_
  by_cases hlt : i < l.length
  · have hw : IntKind.i64.wrap ((i : Int) + 1) = (i : Int) + 1 := wrap_id (by omega) (by omega)
    (repeat (first
    | (apply is_ok; (case hw => simp [hlt]); (case he => simp [hlt]; exact is_rfl))
    | (apply op_no; (case hw => simp [hlt]))
    | refine op_nil ?_ | refine next_normal ?_ | refine go_seq ?_ | refine go_region ?_ | refine go_skip ?_ | refine go_block ?_ | refine inb_normal ?_
    | (apply go_yes; (case hc => simp [hlt])) | (apply go_no; (case hc => simp [hlt]))
    | refine go_exit ?_ | refine next_exit ?_ | refine inb_here ?_ | refine inb_past (by decide) ?_ | refine go_ret ?_ | refine next_ret ?_ | refine inb_ret ?_))
    exact ⟨hlt, by simp [hw], trivial⟩
  · (repeat (first
    | (apply is_ok; (case hw => simp [hlt]); (case he => simp [hlt]; exact is_rfl))
    | (apply op_no; (case hw => simp [hlt]))
    | refine op_nil ?_ | refine next_normal ?_ | refine go_seq ?_ | refine go_region ?_ | refine go_skip ?_ | refine go_block ?_ | refine inb_normal ?_
    | (apply go_yes; (case hc => simp [hlt])) | (apply go_no; (case hc => simp [hlt]))
    | refine go_exit ?_ | refine next_exit ?_ | refine inb_here ?_ | refine inb_past (by decide) ?_ | refine go_ret ?_ | refine next_ret ?_ | refine inb_ret ?_))
    (apply ends_ok; (case h1 => simp; exact is_rfl); (case h2 => simp; exact is_rfl))
    simp


theorem setByte_other {mem : List Int} {k j : Nat} {b : UInt8} (h : k / 2 ≠ j) : (setByte mem k b)[j]? = mem[j]? := by
  unfold setByte
  rw [List.getElem?_set_ne h]
theorem storeN_other {mem : List Int} {a j : Nat} {t : List UInt8} : ∀ {i : Nat}, (2 * j + 1 < a ∨ a + i ≤ 2 * j) → (storeN mem a t i)[j]? = mem[j]?
  | 0, _ => rfl
  | i + 1, h => by
    rw [storeN, setByte_other (by omega), storeN_other (by omega)]
theorem inT_len (s : Sys) (p : Pr) : (inT s p).length ≤ p.blk.toNat * 64 := by unfold inT; rw [List.length_take]; omega

set_option maxHeartbeats 4000000 in
theorem SwapKeeps_eq (s : Sys) (hs : s.Wf) (k : Int) : bodyW DC 6 [.agg s.cells, .int .i64 k] [] = some (.bool true, []) := by
  have v0 := few_eq s hs
  cases hf : fewB s with
  | false =>
    rw [hf] at v0
    (refine gives_iff ?_; refine go_func Try.f6 rfl rfl (by simp [Try.f6]) ?_; dsimp only [codeL, Try.f6, scL, sopsL, guardL, dstAt, loopKey])
    (repeat (first
    | (apply is_ok; (case hw => simp [v0]); (case he => simp [v0]; exact is_rfl))
    | (apply op_no; (case hw => simp [v0]))
    | refine op_nil ?_ | refine next_normal ?_ | refine go_seq ?_ | refine go_region ?_ | refine go_skip ?_ | refine go_block ?_ | refine inb_normal ?_
    | (apply go_yes; (case hc => simp [v0])) | (apply go_no; (case hc => simp [v0]))
    | refine go_exit ?_ | refine next_exit ?_ | refine inb_here ?_ | refine inb_past (by decide) ?_ | refine go_ret ?_ | refine next_ret ?_ | refine inb_ret ?_))
    (apply ends_ok; (case h1 => simp; exact is_rfl); (case h2 => simp; exact is_rfl))
    simp
  | true =>
  rw [hf] at v0
  have hf2 := hf
  unfold fewB at hf2
  simp only [Bool.and_eq_true, decide_eq_true_eq] at hf2
  have v1 := swRightR_eq s (by omega) (by omega) fun q hq => (hs.ps q hq).2.2
  cases hr : rightB s with
  | false =>
    rw [hr] at v1
    (refine gives_iff ?_; refine go_func Try.f6 rfl rfl (by simp [Try.f6]) ?_; dsimp only [codeL, Try.f6, scL, sopsL, guardL, dstAt, loopKey])
    (repeat (first
    | (apply is_ok; (case hw => simp [v0, v1]); (case he => simp [v0, v1]; exact is_rfl))
    | (apply op_no; (case hw => simp [v0, v1]))
    | refine op_nil ?_ | refine next_normal ?_ | refine go_seq ?_ | refine go_region ?_ | refine go_skip ?_ | refine go_block ?_ | refine inb_normal ?_
    | (apply go_yes; (case hc => simp [v0, v1])) | (apply go_no; (case hc => simp [v0, v1]))
    | refine go_exit ?_ | refine next_exit ?_ | refine inb_here ?_ | refine inb_past (by decide) ?_ | refine go_ret ?_ | refine next_ret ?_ | refine inb_ret ?_))
    (apply ends_ok; (case h1 => simp; exact is_rfl); (case h2 => simp; exact is_rfl))
    simp
  | true =>
  rw [hr] at v1
  have hn := nice_of hs hf hr
  have va := alive45_eq
  rcases Out_cases s hn k with ⟨e, he, v2⟩ | ⟨i, p, n0, T, ho⟩
  · rcases In_cases s hn k with ⟨f, hf, v3⟩ | ⟨i, p, n0, M, Z, c, hi⟩
    · rw [s.cells_cw] at v0 v1 v2 v3 ⊢
      (refine gives_iff ?_; refine go_func Try.f6 rfl rfl (by simp [Try.f6]) ?_; dsimp only [codeL, Try.f6, scL, sopsL, guardL, dstAt, loopKey])
      (repeat (first
    | (apply is_ok; (case hw => simp [v0, v1, v2, v3, he, hf, va]); (case he => simp [v0, v1, v2, v3, he, hf, va]; exact is_rfl))
    | (apply op_no; (case hw => simp [v0, v1, v2, v3, he, hf, va]))
    | refine op_nil ?_ | refine next_normal ?_ | refine go_seq ?_ | refine go_region ?_ | refine go_skip ?_ | refine go_block ?_ | refine inb_normal ?_
    | (apply go_yes; (case hc => simp [v0, v1, v2, v3, he, hf, va])) | (apply go_no; (case hc => simp [v0, v1, v2, v3, he, hf, va]))
    | refine go_exit ?_ | refine next_exit ?_ | refine inb_here ?_ | refine inb_past (by decide) ?_ | refine go_ret ?_ | refine next_ret ?_ | refine inb_ret ?_))
      (apply ends_ok; (case h1 => simp; exact is_rfl); (case h2 => simp; exact is_rfl))
      simp
    · have v3 := hi.run
      have hk := hi.hk
      have hp := hi.hp
      have hps := s.hps
      have hil := (List.getElem?_eq_some_iff.1 hp).1
      obtain ⟨c1, c2, c3, c4, c5, c6⟩ := swp_in hn.fine (List.mem_of_getElem? hp) hi.has hi.swd
      have hroom := ((fit_least (l := coreL s.ps) (w := s.co) (k := p.blk) (by omega)).1 n0 hi.fit).1
      have u := hn.fine.right.1
      have r1 := hroom.2.1
      have r2 := hroom.2.2
      have u1 := u.1
      have u2 := u.2.1
      have u3 := u.2.2.2
      have g0 : ¬ k < 0 := by omega
      have g1 : ¬ 8 ≤ k := by omega
      have g2 : (0 : Int) ≤ k := by omega
      have g3 : k.toNat = i := by omega
      have g4 : i < 8 := by omega
      have g5 : ∀ q : Pr, (s.ps.set i q)[i]? = some q := fun q => by rw [List.getElem?_set_self hil]
      have hML : M.length = s.mem.length := by rw [hi.hM]; simp
      have w1 : IntKind.i64.wrap (32 * n0) = 32 * n0 := wrap_id (by omega) (by omega)
      have w2 : IntKind.i64.wrap (n0 + p.blk) = n0 + p.blk := wrap_id (by omega) (by omega)
      have w3 : IntKind.i64.wrap (32 * (n0 + p.blk)) = 32 * (n0 + p.blk) := wrap_id (by omega) (by omega)
      rw [s.cells_cw] at v0 v1 v2 v3 ⊢
      (refine gives_iff ?_; refine go_func Try.f6 rfl rfl (by simp [Try.f6]) ?_; dsimp only [codeL, Try.f6, scL, sopsL, guardL, dstAt, loopKey])
      (repeat (first
    | (apply is_ok; (case hw => simp [v0, v1, v2, v3, he, va, g0, g1, g2, g3, g4, g5, w1, w2, w3, hML]); (case he => simp [v0, v1, v2, v3, he, va, g0, g1, g2, g3, g4, g5, w1, w2, w3, hML]; exact is_rfl))
    | (apply op_no; (case hw => simp [v0, v1, v2, v3, he, va, g0, g1, g2, g3, g4, g5, w1, w2, w3, hML]))
    | refine op_nil ?_ | refine next_normal ?_ | refine go_seq ?_ | refine go_region ?_ | refine go_skip ?_ | refine go_block ?_ | refine inb_normal ?_
    | (apply go_yes; (case hc => simp [v0, v1, v2, v3, he, va, g0, g1, g2, g3, g4, g5, w1, w2, w3, hML])) | (apply go_no; (case hc => simp [v0, v1, v2, v3, he, va, g0, g1, g2, g3, g4, g5, w1, w2, w3, hML]))
    | refine go_exit ?_ | refine next_exit ?_ | refine inb_here ?_ | refine inb_past (by decide) ?_ | refine go_ret ?_ | refine next_ret ?_ | refine inb_ret ?_))
      refine go_count s.mem.length (fun j => [(2, .ptr 0 1 0 0), (7, .ptr 1 1 0 0), (11, .int .i64 (32 * n0)), (12, .int .i64 (32 * (n0 + p.blk))), (13, .int .i64 j)])
        (fun j => [.box (.agg (s.cw (.sl (ints s.mem)) (.sl (ints s.bad)) (.sl (strs s.S)) (.sl (ints s.B)))), .box (.agg ((s.setP i { p with base := n0, swd := false }).cw (.own 2 s.mem.length 0 s.mem.length) (.own 3 s.bad.length 0 c) (.sl (strs s.S)) (.sl (ints s.B)))), .dat true 1 (ints M), .dat true 1 (ints Z)]) (fun _ => True) (by simp) trivial fun j hj _ => ?_
      by_cases hlt : j < s.mem.length
      · have k1 : (j : Int) < s.mem.length := by omega
        have k2 : IntKind.i64.wrap ((j : Int) + 1) = (j : Int) + 1 := wrap_id (by omega) (by have := hf2.1.1.1.1; omega)
        have hjM : j < M.length := by omega
        have e1 : s.mem[j]? = some s.mem[j] := List.getElem?_eq_getElem hlt
        have eM : (j : Int) < 32 * n0 ∨ 32 * (n0 + p.blk) ≤ j → M[j] = s.mem[j] := fun hh => by
          have hl := inT_len s p
          have := storeN_other (mem := s.mem) (a := n0.toNat * 64) (j := j) (t := inT s p) (i := (inT s p).length) (by omega)
          rw [← hi.hM, e1, List.getElem?_eq_getElem hjM] at this
          exact Option.some.inj this
        by_cases d1 : (j : Int) < 32 * n0
        · have e2 := eM (.inl d1)
          (repeat (first
    | (apply is_ok; (case hw => simp [k1, k2, hlt, hML, d1, e2]); (case he => simp [k1, k2, hlt, hML, d1, e2]; exact is_rfl))
    | (apply op_no; (case hw => simp [k1, k2, hlt, hML, d1, e2]))
    | refine op_nil ?_ | refine next_normal ?_ | refine go_seq ?_ | refine go_region ?_ | refine go_skip ?_ | refine go_block ?_ | refine inb_normal ?_
    | (apply go_yes; (case hc => simp [k1, k2, hlt, hML, d1, e2])) | (apply go_no; (case hc => simp [k1, k2, hlt, hML, d1, e2]))
    | refine go_exit ?_ | refine next_exit ?_ | refine inb_here ?_ | refine inb_past (by decide) ?_ | refine go_ret ?_ | refine next_ret ?_ | refine inb_ret ?_))
          exact ⟨hlt, by simp [k2], trivial⟩
        · by_cases d2 : 32 * (n0 + p.blk) ≤ j
          · have e2 := eM (.inr d2)
            (repeat (first
    | (apply is_ok; (case hw => simp [k1, k2, hlt, hML, d1, d2, e2]); (case he => simp [k1, k2, hlt, hML, d1, d2, e2]; exact is_rfl))
    | (apply op_no; (case hw => simp [k1, k2, hlt, hML, d1, d2, e2]))
    | refine op_nil ?_ | refine next_normal ?_ | refine go_seq ?_ | refine go_region ?_ | refine go_skip ?_ | refine go_block ?_ | refine inb_normal ?_
    | (apply go_yes; (case hc => simp [k1, k2, hlt, hML, d1, d2, e2])) | (apply go_no; (case hc => simp [k1, k2, hlt, hML, d1, d2, e2]))
    | refine go_exit ?_ | refine next_exit ?_ | refine inb_here ?_ | refine inb_past (by decide) ?_ | refine go_ret ?_ | refine next_ret ?_ | refine inb_ret ?_))
            exact ⟨hlt, by simp [k2], trivial⟩
          · (repeat (first
    | (apply is_ok; (case hw => simp [k1, k2, hlt, hML, d1, d2]); (case he => simp [k1, k2, hlt, hML, d1, d2]; exact is_rfl))
    | (apply op_no; (case hw => simp [k1, k2, hlt, hML, d1, d2]))
    | refine op_nil ?_ | refine next_normal ?_ | refine go_seq ?_ | refine go_region ?_ | refine go_skip ?_ | refine go_block ?_ | refine inb_normal ?_
    | (apply go_yes; (case hc => simp [k1, k2, hlt, hML, d1, d2])) | (apply go_no; (case hc => simp [k1, k2, hlt, hML, d1, d2]))
    | refine go_exit ?_ | refine next_exit ?_ | refine inb_here ?_ | refine inb_past (by decide) ?_ | refine go_ret ?_ | refine next_ret ?_ | refine inb_ret ?_))
            exact ⟨hlt, by simp [k2], trivial⟩
      · have k1 : ¬ (j : Int) < s.mem.length := by omega
        have vd := Diff_eq s.S s.S s.B s.B (by have := hn.fine.S; omega) (by have := hn.fine.S; omega)
        rw [diffA_nil.2 rfl] at vd
        (repeat (first
    | (apply is_ok; (case hw => simp [k1, vd, va]); (case he => simp [k1, vd, va]; exact is_rfl))
    | (apply op_no; (case hw => simp [k1, vd, va]))
    | refine op_nil ?_ | refine next_normal ?_ | refine go_seq ?_ | refine go_region ?_ | refine go_skip ?_ | refine go_block ?_ | refine inb_normal ?_
    | (apply go_yes; (case hc => simp [k1, vd, va])) | (apply go_no; (case hc => simp [k1, vd, va]))
    | refine go_exit ?_ | refine next_exit ?_ | refine inb_here ?_ | refine inb_past (by decide) ?_ | refine go_ret ?_ | refine next_ret ?_ | refine inb_ret ?_))
        (apply ends_ok; (case h1 => simp; exact is_rfl); (case h2 => simp; exact is_rfl))
        simp
  · rcases In_cases s hn k with ⟨f, hf, v3⟩ | ⟨i', p', n1, M, Z, c, hi⟩
    · have v2 := ho.run
      have hk := ho.hk
      have hp := ho.hp
      have hps := s.hps
      have hil := (List.getElem?_eq_some_iff.1 hp).1
      obtain ⟨c1, c2, c3, c4, c5, c6⟩ := core_in hn.fine (List.mem_of_getElem? hp) ho.has ho.swd
      obtain ⟨s1, s2, s3⟩ := secN_bound c4 c5
      have hroom := ((fit_least (l := swpL s.ps) (w := s.sw) (k := secN p.blk) s1).1 n0 ho.fit).1
      have u := hn.fine.right.2.1
      have r1 := hroom.2.1
      have r2 := hroom.2.2
      have u1 := u.1
      have u2 := u.2.1
      have u3 := u.2.2.2
      have g0 : ¬ k < 0 := by omega
      have g1 : ¬ 8 ≤ k := by omega
      have g2 : (0 : Int) ≤ k := by omega
      have g3 : k.toNat = i := by omega
      have g4 : i < 8 := by omega
      have g5 : ∀ q : Pr, (s.ps.set i q)[i]? = some q := fun q => by rw [List.getElem?_set_self hil]
      have hTl : T.length = s.S.length := by rw [ho.hT]; exact puts_length _ _
      have hSl := hn.fine.S
      have vd := Diff_eq s.S T s.B s.B (by omega) (by omega)
      have hD : ∀ x ∈ diffA s.S T, n0 ≤ x ∧ x < n0 + secN p.blk := fun x hx => by
        obtain ⟨j, rfl, hj⟩ := diffL_mem hx
        rw [ho.hT] at hj
        obtain ⟨w, hw, he⟩ := puts_other _ _ ho.ok j hj
        obtain ⟨m, hm, rfl⟩ := List.mem_map.1 hw
        have := List.mem_range.1 hm
        dsimp only at he
        omega
      have hDl : (diffA s.S T).length ≤ 64 := Nat.le_trans (diffL_length _ _ _) (by omega)
      have v4 := Sectors_eq p.blk (hs.ps p (List.mem_of_getElem? hp)).2.2
      have w1 : IntKind.i64.wrap (n0 + secN p.blk) = n0 + secN p.blk := wrap_id (by omega) (by omega)
      have vm := sameI_refl s.mem (by have := hn.fine.mem; omega)
      have vb := sameI_refl s.bad (by have := hn.badl; omega)
      generalize diffA s.S T = D at vd hD hDl
      rw [s.cells_cw] at v0 v1 v2 v3 ⊢
      (refine gives_iff ?_; refine go_func Try.f6 rfl rfl (by simp [Try.f6]) ?_; dsimp only [codeL, Try.f6, scL, sopsL, guardL, dstAt, loopKey])
      (repeat (first
    | (apply is_ok; (case hw => simp [v0, v1, v2, v3, hf, va, g0, g1, g2, g3, g4, g5, vd, hTl]); (case he => simp [v0, v1, v2, v3, hf, va, g0, g1, g2, g3, g4, g5, vd, hTl]; exact is_rfl))
    | (apply op_no; (case hw => simp [v0, v1, v2, v3, hf, va, g0, g1, g2, g3, g4, g5, vd, hTl]))
    | refine op_nil ?_ | refine next_normal ?_ | refine go_seq ?_ | refine go_region ?_ | refine go_skip ?_ | refine go_block ?_ | refine inb_normal ?_
    | (apply go_yes; (case hc => simp [v0, v1, v2, v3, hf, va, g0, g1, g2, g3, g4, g5, vd, hTl])) | (apply go_no; (case hc => simp [v0, v1, v2, v3, hf, va, g0, g1, g2, g3, g4, g5, vd, hTl]))
    | refine go_exit ?_ | refine next_exit ?_ | refine inb_here ?_ | refine inb_past (by decide) ?_ | refine go_ret ?_ | refine next_ret ?_ | refine inb_ret ?_))
      refine go_count D.length (fun j => [(1, .int .i64 k), (2, .ptr 0 1 0 0), (5, .ptr 1 1 0 0), (7, .ptr 4 1 0 0), (8, .int .i64 f), (9, .own 5 D.length 0 D.length), (10, .int .i64 j)])
        (fun j => [.box (.agg (s.cw (.sl (ints s.mem)) (.sl (ints s.bad)) (.sl (strs s.S)) (.sl (ints s.B)))), .box (.agg ((s.setP i { p with base := n0, swd := true }).cw (.sl (ints s.mem)) (.sl (ints s.bad)) (.own 2 s.S.length 0 s.S.length) (.own 3 s.B.length 0 s.B.length))), .dat true 1 (strs T), .dat true 1 (ints s.B), .box (.agg zN), .dat true 1 (ints D)]) (fun _ => True) (by simp) trivial fun j hj _ => ?_
      by_cases hlt : j < D.length
      · have k1 : (j : Int) < D.length := by omega
        have k2 : IntKind.i64.wrap ((j : Int) + 1) = (j : Int) + 1 := wrap_id (by omega) (by omega)
        have e1 : D[j]? = some D[j] := List.getElem?_eq_getElem hlt
        have hd := hD D[j] (List.getElem_mem hlt)
        have d1 : ¬ D[j] < n0 := by omega
        have d2 : ¬ n0 + secN p.blk ≤ D[j] := by omega
        have d3 : ¬ D[j] < s.sw.1 := by omega
        (repeat (first
    | (apply is_ok; (case hw => simp [k1, k2, hlt, e1, d1, d2, d3, g2, g3, g4, g5, v4, w1]); (case he => simp [k1, k2, hlt, e1, d1, d2, d3, g2, g3, g4, g5, v4, w1]; exact is_rfl))
    | (apply op_no; (case hw => simp [k1, k2, hlt, e1, d1, d2, d3, g2, g3, g4, g5, v4, w1]))
    | refine op_nil ?_ | refine next_normal ?_ | refine go_seq ?_ | refine go_region ?_ | refine go_skip ?_ | refine go_block ?_ | refine inb_normal ?_
    | (apply go_yes; (case hc => simp [k1, k2, hlt, e1, d1, d2, d3, g2, g3, g4, g5, v4, w1])) | (apply go_no; (case hc => simp [k1, k2, hlt, e1, d1, d2, d3, g2, g3, g4, g5, v4, w1]))
    | refine go_exit ?_ | refine next_exit ?_ | refine inb_here ?_ | refine inb_past (by decide) ?_ | refine go_ret ?_ | refine next_ret ?_ | refine inb_ret ?_))
        exact ⟨hlt, by simp [k2], trivial⟩
      · have k1 : ¬ (j : Int) < D.length := by omega
        (repeat (first
    | (apply is_ok; (case hw => simp [k1, vm, vb, hf, va]); (case he => simp [k1, vm, vb, hf, va]; exact is_rfl))
    | (apply op_no; (case hw => simp [k1, vm, vb, hf, va]))
    | refine op_nil ?_ | refine next_normal ?_ | refine go_seq ?_ | refine go_region ?_ | refine go_skip ?_ | refine go_block ?_ | refine inb_normal ?_
    | (apply go_yes; (case hc => simp [k1, vm, vb, hf, va])) | (apply go_no; (case hc => simp [k1, vm, vb, hf, va]))
    | refine go_exit ?_ | refine next_exit ?_ | refine inb_here ?_ | refine inb_past (by decide) ?_ | refine go_ret ?_ | refine next_ret ?_ | refine inb_ret ?_))
        (apply ends_ok; (case h1 => simp; exact is_rfl); (case h2 => simp; exact is_rfl))
        simp
    · exfalso
      obtain rfl : i = i' := by have := ho.hk; have := hi.hk; omega
      have h1 := ho.hp
      have h2 := hi.hp
      rw [h1] at h2
      cases h2
      have := ho.swd
      have := hi.swd
      simp_all
end Go.Abs

