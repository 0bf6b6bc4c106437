/- Proved here: what functions of the program compute, over the evaluator. No condition but those that each theorem states. -/
import Derived.Test.YthpkihimboiglaaM4
import Derived.Test.YthpkihimboiglaaM2
import Derived.Test.YthpkihimboiglaaM5
namespace Go.Abs
open Go.Proofs
set_option maxRecDepth 100000
set_option linter.unusedSimpArgs false
set_option linter.unusedVariables false

/-- Is a memory valid? -/
structure MemP (mem bad : List Int) : Prop where
  lo : 256 ≤ 2 * mem.length
  hi : 2 * mem.length ≤ 32768
  div : 2 * mem.length % 64 = 0
  words : Words mem
  ok : ∀ a ∈ bad, 0 ≤ a ∧ a < 2 * mem.length ∧ a % 2 = 0
  asc : bad.Pairwise (· < ·)
noncomputable def memB (mem bad : List Int) : Bool := @decide (MemP mem bad) (Classical.propDecidable _)
theorem memB_yes {mem bad : List Int} (h : MemP mem bad) : memB mem bad = true := by unfold memB; simp [h]
theorem memB_no {mem bad : List Int} (h : ¬ MemP mem bad) : memB mem bad = false := by unfold memB; simp [h]
theorem memB_iff {mem bad : List Int} : memB mem bad = true ↔ MemP mem bad := by unfold memB; simp

theorem Size_eq (n : Nat) : bodyW DC 66 [.int .i64 n] [] = some (.bool (decide (256 ≤ n ∧ n ≤ 32768 ∧ n % 64 = 0)), []) := by
  have q : (n : Int).tmod 64 = (n : Int) % 64 := Int.tmod_eq_emod_of_nonneg (by omega)
  by_cases h1 : 256 ≤ n
  · have c1 : (256 : Int) ≤ n := by omega
    by_cases h2 : n ≤ 32768
    · have c2 : (n : Int) ≤ 32768 := by omega
      have e : (n % 64 = 0) ↔ (n : Int) % 64 = 0 := by omega
      (refine gives_iff ?_; refine go_func Try.f66 rfl rfl (by simp [Try.f66]) ?_; dsimp only [codeL, Try.f66, scL, sopsL, guardL, dstAt, loopKey])
      (repeat (first
    | (apply is_ok; (case hw => simp [c1, c2, q]); (case he => simp [c1, c2, q]; exact is_rfl))
    | (apply op_no; (case hw => simp [c1, c2, q]))
    | refine op_nil ?_ | refine next_normal ?_ | refine go_seq ?_ | refine go_region ?_ | refine go_skip ?_ | refine go_block ?_ | refine inb_normal ?_
    | (apply go_yes; (case hc => simp [c1, c2, q])) | (apply go_no; (case hc => simp [c1, c2, q]))
    | refine go_exit ?_ | refine next_exit ?_ | refine inb_here ?_ | refine inb_past (by decide) ?_ | refine go_ret ?_ | refine next_ret ?_ | refine inb_ret ?_))
      (apply ends_ok; (case h1 => simp; exact is_rfl); (case h2 => simp; exact is_rfl))
      simp [h1, h2, e, Bool.beq_eq_decide_eq]
    · have c2 : ¬ (n : Int) ≤ 32768 := by omega
      (refine gives_iff ?_; refine go_func Try.f66 rfl rfl (by simp [Try.f66]) ?_; dsimp only [codeL, Try.f66, scL, sopsL, guardL, dstAt, loopKey])
      (repeat (first
    | (apply is_ok; (case hw => simp [c1, c2, q]); (case he => simp [c1, c2, q]; exact is_rfl))
    | (apply op_no; (case hw => simp [c1, c2, q]))
    | refine op_nil ?_ | refine next_normal ?_ | refine go_seq ?_ | refine go_region ?_ | refine go_skip ?_ | refine go_block ?_ | refine inb_normal ?_
    | (apply go_yes; (case hc => simp [c1, c2, q])) | (apply go_no; (case hc => simp [c1, c2, q]))
    | refine go_exit ?_ | refine next_exit ?_ | refine inb_here ?_ | refine inb_past (by decide) ?_ | refine go_ret ?_ | refine next_ret ?_ | refine inb_ret ?_))
      (apply ends_ok; (case h1 => simp; exact is_rfl); (case h2 => simp; exact is_rfl))
      simp [h1, h2]
  · have c1 : ¬ (256 : Int) ≤ n := by omega
    (refine gives_iff ?_; refine go_func Try.f66 rfl rfl (by simp [Try.f66]) ?_; dsimp only [codeL, Try.f66, scL, sopsL, guardL, dstAt, loopKey])
    (repeat (first
    | (apply is_ok; (case hw => simp [c1, q]); (case he => simp [c1, q]; exact is_rfl))
    | (apply op_no; (case hw => simp [c1, q]))
    | refine op_nil ?_ | refine next_normal ?_ | refine go_seq ?_ | refine go_region ?_ | refine go_skip ?_ | refine go_block ?_ | refine inb_normal ?_
    | (apply go_yes; (case hc => simp [c1, q])) | (apply go_no; (case hc => simp [c1, q]))
    | refine go_exit ?_ | refine next_exit ?_ | refine inb_here ?_ | refine inb_past (by decide) ?_ | refine go_ret ?_ | refine next_ret ?_ | refine inb_ret ?_))
    (apply ends_ok; (case h1 => simp; exact is_rfl); (case h2 => simp; exact is_rfl))
    simp [h1]
theorem sized_eq (n : Nat) : bodyW DC 56 [.int .i64 n] [] = some (.bool (decide (256 ≤ n ∧ n ≤ 32768 ∧ n % 64 = 0)), []) := by
  have q : (n : Int).tmod 64 = (n : Int) % 64 := Int.tmod_eq_emod_of_nonneg (by omega)
  by_cases h1 : 256 ≤ n
  · have c1 : (256 : Int) ≤ n := by omega
    by_cases h2 : n ≤ 32768
    · have c2 : (n : Int) ≤ 32768 := by omega
      have e : (n % 64 = 0) ↔ (n : Int) % 64 = 0 := by omega
      (refine gives_iff ?_; refine go_func Try.f56 rfl rfl (by simp [Try.f56]) ?_; dsimp only [codeL, Try.f56, scL, sopsL, guardL, dstAt, loopKey])
      (repeat (first
    | (apply is_ok; (case hw => simp [c1, c2, q]); (case he => simp [c1, c2, q]; exact is_rfl))
    | (apply op_no; (case hw => simp [c1, c2, q]))
    | refine op_nil ?_ | refine next_normal ?_ | refine go_seq ?_ | refine go_region ?_ | refine go_skip ?_ | refine go_block ?_ | refine inb_normal ?_
    | (apply go_yes; (case hc => simp [c1, c2, q])) | (apply go_no; (case hc => simp [c1, c2, q]))
    | refine go_exit ?_ | refine next_exit ?_ | refine inb_here ?_ | refine inb_past (by decide) ?_ | refine go_ret ?_ | refine next_ret ?_ | refine inb_ret ?_))
      (apply ends_ok; (case h1 => simp; exact is_rfl); (case h2 => simp; exact is_rfl))
      simp [h1, h2, e, Bool.beq_eq_decide_eq]
    · have c2 : ¬ (n : Int) ≤ 32768 := by omega
      (refine gives_iff ?_; refine go_func Try.f56 rfl rfl (by simp [Try.f56]) ?_; dsimp only [codeL, Try.f56, scL, sopsL, guardL, dstAt, loopKey])
      (repeat (first
    | (apply is_ok; (case hw => simp [c1, c2, q]); (case he => simp [c1, c2, q]; exact is_rfl))
    | (apply op_no; (case hw => simp [c1, c2, q]))
    | refine op_nil ?_ | refine next_normal ?_ | refine go_seq ?_ | refine go_region ?_ | refine go_skip ?_ | refine go_block ?_ | refine inb_normal ?_
    | (apply go_yes; (case hc => simp [c1, c2, q])) | (apply go_no; (case hc => simp [c1, c2, q]))
    | refine go_exit ?_ | refine next_exit ?_ | refine inb_here ?_ | refine inb_past (by decide) ?_ | refine go_ret ?_ | refine next_ret ?_ | refine inb_ret ?_))
      (apply ends_ok; (case h1 => simp; exact is_rfl); (case h2 => simp; exact is_rfl))
      simp [h1, h2]
  · have c1 : ¬ (256 : Int) ≤ n := by omega
    (refine gives_iff ?_; refine go_func Try.f56 rfl rfl (by simp [Try.f56]) ?_; dsimp only [codeL, Try.f56, scL, sopsL, guardL, dstAt, loopKey])
    (repeat (first
    | (apply is_ok; (case hw => simp [c1, q]); (case he => simp [c1, q]; exact is_rfl))
    | (apply op_no; (case hw => simp [c1, q]))
    | refine op_nil ?_ | refine next_normal ?_ | refine go_seq ?_ | refine go_region ?_ | refine go_skip ?_ | refine go_block ?_ | refine inb_normal ?_
    | (apply go_yes; (case hc => simp [c1, q])) | (apply go_no; (case hc => simp [c1, q]))
    | refine go_exit ?_ | refine next_exit ?_ | refine inb_here ?_ | refine inb_past (by decide) ?_ | refine go_ret ?_ | refine next_ret ?_ | refine inb_ret ?_))
    (apply ends_ok; (case h1 => simp; exact is_rfl); (case h2 => simp; exact is_rfl))
    simp [h1]

theorem last_le {bad : List Int} {i : Nat} (hi : i < bad.length) (h : (bad.take i).Pairwise (· < ·)) {a : Int} (ha : a ∈ bad.take i) : ∃ h0 : 0 < i, a ≤ bad[i - 1] := by
  obtain ⟨j, hj, rfl⟩ := List.mem_iff_getElem.1 ha
  rw [List.length_take] at hj
  refine ⟨by omega, ?_⟩
  rw [List.getElem_take]
  rw [List.pairwise_iff_getElem] at h
  rcases Nat.lt_or_ge j (i - 1) with h1 | h1
  · have := h j (i - 1) (by rw [List.length_take]; omega) (by rw [List.length_take]; omega) h1
    rw [List.getElem_take, List.getElem_take] at this
    exact Int.le_of_lt this
  · have : j = i - 1 := by omega
    subst this
    exact Int.le_refl _
theorem asc_step {bad : List Int} {i : Nat} (hi : i < bad.length) (h : (bad.take i).Pairwise (· < ·)) (hl : ∀ h0 : 0 < i, bad[i - 1] < bad[i]) : (bad.take (i + 1)).Pairwise (· < ·) := by
  rw [List.take_succ_eq_append_getElem hi, List.pairwise_append]
  refine ⟨h, List.pairwise_singleton .., fun a ha b hb => ?_⟩
  rw [List.mem_singleton] at hb
  subst hb
  obtain ⟨h0, h1⟩ := last_le hi h ha
  have := hl h0
  omega

set_option maxHeartbeats 2000000 in
theorem memRightR_eq (mem bad : List Int) (hm : mem.length ≤ 1000000) (hb : bad.length ≤ 1000000) : bodyW DC 44 [.sl (ints mem), .sl (ints bad)] [] = some (.bool (memB mem bad), []) := by
  have v1 := Size_eq (2 * mem.length)
  have w0 : IntKind.i64.wrap (2 * (mem.length : Int)) = 2 * (mem.length : Int) := wrap_id (by omega) (by omega)
  push_cast at v1
  generalize hB : memB mem bad = B
  by_cases hz : 256 ≤ 2 * mem.length ∧ 2 * mem.length ≤ 32768 ∧ 2 * mem.length % 64 = 0
  case neg =>
    rw [decide_eq_false hz] at v1
    obtain rfl : B = false := by rw [← hB]; exact memB_no fun h => hz ⟨h.lo, h.hi, h.div⟩
    (refine gives_iff ?_; refine go_func Try.f44 rfl rfl (by simp [Try.f44]) ?_; dsimp only [codeL, Try.f44, scL, sopsL, guardL, dstAt, loopKey])
    (repeat (first
    | (apply is_ok; (case hw => simp [v1, w0]); (case he => simp [v1, w0]; exact is_rfl))
    | (apply op_no; (case hw => simp [v1, w0]))
    | refine op_nil ?_ | refine next_normal ?_ | refine go_seq ?_ | refine go_region ?_ | refine go_skip ?_ | refine go_block ?_ | refine inb_normal ?_
    | (apply go_yes; (case hc => simp [v1, w0])) | (apply go_no; (case hc => simp [v1, w0]))
    | refine go_exit ?_ | refine next_exit ?_ | refine inb_here ?_ | refine inb_past (by decide) ?_ | refine go_ret ?_ | refine next_ret ?_ | refine inb_ret ?_))
    (apply ends_ok; (case h1 => simp; exact is_rfl); (case h2 => simp; exact is_rfl))
    simp
  rw [decide_eq_true hz] at v1
  (refine gives_iff ?_; refine go_func Try.f44 rfl rfl (by simp [Try.f44]) ?_; dsimp only [codeL, Try.f44, scL, sopsL, guardL, dstAt, loopKey])
  (repeat (first
    | (apply is_ok; (case hw => simp [v1, w0]); (case he => simp [v1, w0]; exact is_rfl))
    | (apply op_no; (case hw => simp [v1, w0]))
    | refine op_nil ?_ | refine next_normal ?_ | refine go_seq ?_ | refine go_region ?_ | refine go_skip ?_ | refine go_block ?_ | refine inb_normal ?_
    | (apply go_yes; (case hc => simp [v1, w0])) | (apply go_no; (case hc => simp [v1, w0]))
    | refine go_exit ?_ | refine next_exit ?_ | refine inb_here ?_ | refine inb_past (by decide) ?_ | refine go_ret ?_ | refine next_ret ?_ | refine inb_ret ?_))
  refine go_count mem.length (fun i => [(0, .sl (ints mem)), (1, .sl (ints bad)), (5, .int .i64 i)]) (fun _ => []) (fun i => ∀ j (h : j < mem.length), j < i → 0 ≤ mem[j] ∧ mem[j] ≤ 65535) (by simp) (fun j _ h => absurd h (Nat.not_lt_zero j)) fun i hi hI => ?_
  by_cases hlt : i < mem.length
  · have g1 : (i : Int) < mem.length := by omega
    have g2 : mem[i]? = some mem[i] := List.getElem?_eq_getElem hlt
    have w1 : IntKind.i64.wrap ((i : Int) + 1) = (i : Int) + 1 := wrap_id (by omega) (by omega)
    by_cases c1 : mem[i] < 0
    · obtain rfl : B = false := by
        rw [← hB]; exact memB_no fun h => by have := h.words _ (List.getElem_mem hlt); omega
      (repeat (first
    | (apply is_ok; (case hw => simp [g1, g2, hlt, c1]); (case he => simp [g1, g2, hlt, c1]; exact is_rfl))
    | (apply op_no; (case hw => simp [g1, g2, hlt, c1]))
    | refine op_nil ?_ | refine next_normal ?_ | refine go_seq ?_ | refine go_region ?_ | refine go_skip ?_ | refine go_block ?_ | refine inb_normal ?_
    | (apply go_yes; (case hc => simp [g1, g2, hlt, c1])) | (apply go_no; (case hc => simp [g1, g2, hlt, c1]))
    | refine go_exit ?_ | refine next_exit ?_ | refine inb_here ?_ | refine inb_past (by decide) ?_ | refine go_ret ?_ | refine next_ret ?_ | refine inb_ret ?_))
      (apply ends_ok; (case h1 => simp; exact is_rfl); (case h2 => simp; exact is_rfl))
      simp
    by_cases c2 : 65535 < mem[i]
    · obtain rfl : B = false := by
        rw [← hB]; exact memB_no fun h => by have := h.words _ (List.getElem_mem hlt); omega
      (repeat (first
    | (apply is_ok; (case hw => simp [g1, g2, hlt, c1, c2]); (case he => simp [g1, g2, hlt, c1, c2]; exact is_rfl))
    | (apply op_no; (case hw => simp [g1, g2, hlt, c1, c2]))
    | refine op_nil ?_ | refine next_normal ?_ | refine go_seq ?_ | refine go_region ?_ | refine go_skip ?_ | refine go_block ?_ | refine inb_normal ?_
    | (apply go_yes; (case hc => simp [g1, g2, hlt, c1, c2])) | (apply go_no; (case hc => simp [g1, g2, hlt, c1, c2]))
    | refine go_exit ?_ | refine next_exit ?_ | refine inb_here ?_ | refine inb_past (by decide) ?_ | refine go_ret ?_ | refine next_ret ?_ | refine inb_ret ?_))
      (apply ends_ok; (case h1 => simp; exact is_rfl); (case h2 => simp; exact is_rfl))
      simp
    · (repeat (first
    | (apply is_ok; (case hw => simp [g1, g2, hlt, c1, c2, w1]); (case he => simp [g1, g2, hlt, c1, c2, w1]; exact is_rfl))
    | (apply op_no; (case hw => simp [g1, g2, hlt, c1, c2, w1]))
    | refine op_nil ?_ | refine next_normal ?_ | refine go_seq ?_ | refine go_region ?_ | refine go_skip ?_ | refine go_block ?_ | refine inb_normal ?_
    | (apply go_yes; (case hc => simp [g1, g2, hlt, c1, c2, w1])) | (apply go_no; (case hc => simp [g1, g2, hlt, c1, c2, w1]))
    | refine go_exit ?_ | refine next_exit ?_ | refine inb_here ?_ | refine inb_past (by decide) ?_ | refine go_ret ?_ | refine next_ret ?_ | refine inb_ret ?_))
      exact ⟨hlt, by simp [w1], fun j h hj => by
        rcases Nat.lt_or_ge j i with h1 | h1
        · exact hI j h h1
        · have : j = i := by omega
          subst this
          omega⟩
  have hW : Words mem := fun w hw => by
    obtain ⟨j, hj, rfl⟩ := List.mem_iff_getElem.1 hw
    exact hI j hj (by omega)
  have g1 : ¬ (i : Int) < mem.length := by omega
  (repeat (first
    | (apply is_ok; (case hw => simp [g1]); (case he => simp [g1]; exact is_rfl))
    | (apply op_no; (case hw => simp [g1]))
    | refine op_nil ?_ | refine next_normal ?_ | refine go_seq ?_ | refine go_region ?_ | refine go_skip ?_ | refine go_block ?_ | refine inb_normal ?_
    | (apply go_yes; (case hc => simp [g1])) | (apply go_no; (case hc => simp [g1]))
    | refine go_exit ?_ | refine next_exit ?_ | refine inb_here ?_ | refine inb_past (by decide) ?_ | refine go_ret ?_ | refine next_ret ?_ | refine inb_ret ?_))
  refine go_count bad.length (fun i => [(0, .sl (ints mem)), (1, .sl (ints bad)), (6, .int .i64 i)]) (fun _ => []) (fun i => (∀ a ∈ bad.take i, 0 ≤ a ∧ a < 2 * mem.length ∧ a % 2 = 0) ∧ (bad.take i).Pairwise (· < ·)) (by simp) (by simp) fun k hk hK => ?_
  by_cases hlt : k < bad.length
  · have g3 : (k : Int) < bad.length := by omega
    have g4 : bad[k]? = some bad[k] := List.getElem?_eq_getElem hlt
    have w1 : IntKind.i64.wrap ((k : Int) + 1) = (k : Int) + 1 := wrap_id (by omega) (by omega)
    have mk := List.getElem_mem hlt
    by_cases c1 : bad[k] < 0
    · obtain rfl : B = false := by
        rw [← hB]; exact memB_no fun h => by have := h.ok _ mk; omega
      (repeat (first
    | (apply is_ok; (case hw => simp [g3, g4, hlt, c1]); (case he => simp [g3, g4, hlt, c1]; exact is_rfl))
    | (apply op_no; (case hw => simp [g3, g4, hlt, c1]))
    | refine op_nil ?_ | refine next_normal ?_ | refine go_seq ?_ | refine go_region ?_ | refine go_skip ?_ | refine go_block ?_ | refine inb_normal ?_
    | (apply go_yes; (case hc => simp [g3, g4, hlt, c1])) | (apply go_no; (case hc => simp [g3, g4, hlt, c1]))
    | refine go_exit ?_ | refine next_exit ?_ | refine inb_here ?_ | refine inb_past (by decide) ?_ | refine go_ret ?_ | refine next_ret ?_ | refine inb_ret ?_))
      (apply ends_ok; (case h1 => simp; exact is_rfl); (case h2 => simp; exact is_rfl))
      simp
    by_cases c2 : 2 * (mem.length : Int) ≤ bad[k]
    · obtain rfl : B = false := by
        rw [← hB]; exact memB_no fun h => by have := h.ok _ mk; omega
      (repeat (first
    | (apply is_ok; (case hw => simp [g3, g4, hlt, c1, c2, w0]); (case he => simp [g3, g4, hlt, c1, c2, w0]; exact is_rfl))
    | (apply op_no; (case hw => simp [g3, g4, hlt, c1, c2, w0]))
    | refine op_nil ?_ | refine next_normal ?_ | refine go_seq ?_ | refine go_region ?_ | refine go_skip ?_ | refine go_block ?_ | refine inb_normal ?_
    | (apply go_yes; (case hc => simp [g3, g4, hlt, c1, c2, w0])) | (apply go_no; (case hc => simp [g3, g4, hlt, c1, c2, w0]))
    | refine go_exit ?_ | refine next_exit ?_ | refine inb_here ?_ | refine inb_past (by decide) ?_ | refine go_ret ?_ | refine next_ret ?_ | refine inb_ret ?_))
      (apply ends_ok; (case h1 => simp; exact is_rfl); (case h2 => simp; exact is_rfl))
      simp
    have q : bad[k].tmod 2 = bad[k] % 2 := Int.tmod_eq_emod_of_nonneg (by omega)
    by_cases c3 : bad[k] % 2 = 0
    case neg =>
      obtain rfl : B = false := by
        rw [← hB]; exact memB_no fun h => c3 (h.ok _ mk).2.2
      (repeat (first
    | (apply is_ok; (case hw => simp [g3, g4, hlt, c1, c2, c3, w0, q]); (case he => simp [g3, g4, hlt, c1, c2, c3, w0, q]; exact is_rfl))
    | (apply op_no; (case hw => simp [g3, g4, hlt, c1, c2, c3, w0, q]))
    | refine op_nil ?_ | refine next_normal ?_ | refine go_seq ?_ | refine go_region ?_ | refine go_skip ?_ | refine go_block ?_ | refine inb_normal ?_
    | (apply go_yes; (case hc => simp [g3, g4, hlt, c1, c2, c3, w0, q])) | (apply go_no; (case hc => simp [g3, g4, hlt, c1, c2, c3, w0, q]))
    | refine go_exit ?_ | refine next_exit ?_ | refine inb_here ?_ | refine inb_past (by decide) ?_ | refine go_ret ?_ | refine next_ret ?_ | refine inb_ret ?_))
      (apply ends_ok; (case h1 => simp; exact is_rfl); (case h2 => simp; exact is_rfl))
      simp
    have nk : ∀ (hl : ∀ h0 : 0 < k, bad[k - 1] < bad[k]), (∀ a ∈ bad.take (k + 1), 0 ≤ a ∧ a < 2 * mem.length ∧ a % 2 = 0) ∧ (bad.take (k + 1)).Pairwise (· < ·) := fun hl => by
      refine ⟨fun a ha => ?_, asc_step hlt hK.2 hl⟩
      rw [List.take_succ_eq_append_getElem hlt, List.mem_append, List.mem_singleton] at ha
      rcases ha with ha | rfl
      · exact hK.1 a ha
      · exact ⟨by omega, by omega, c3⟩
    rcases Nat.eq_zero_or_pos k with k0 | k0
    · subst k0
      (repeat (first
    | (apply is_ok; (case hw => simp [g3, g4, hlt, c1, c2, c3, w0, w1, q]); (case he => simp [g3, g4, hlt, c1, c2, c3, w0, w1, q]; exact is_rfl))
    | (apply op_no; (case hw => simp [g3, g4, hlt, c1, c2, c3, w0, w1, q]))
    | refine op_nil ?_ | refine next_normal ?_ | refine go_seq ?_ | refine go_region ?_ | refine go_skip ?_ | refine go_block ?_ | refine inb_normal ?_
    | (apply go_yes; (case hc => simp [g3, g4, hlt, c1, c2, c3, w0, w1, q])) | (apply go_no; (case hc => simp [g3, g4, hlt, c1, c2, c3, w0, w1, q]))
    | refine go_exit ?_ | refine next_exit ?_ | refine inb_here ?_ | refine inb_past (by decide) ?_ | refine go_ret ?_ | refine next_ret ?_ | refine inb_ret ?_))
      exact ⟨hlt, by simp [w1], nk fun h => absurd h (by decide)⟩
    · obtain ⟨m, hmk⟩ : ∃ m, m = k - 1 := ⟨_, rfl⟩
      have w2 : IntKind.i64.wrap ((k : Int) - 1) = (m : Int) := by rw [wrap_id (by omega) (by omega)]; omega
      have hlm : m < bad.length := by omega
      have g5 : bad[m]? = some bad[m] := List.getElem?_eq_getElem hlm
      have g6 : (0 : Int) < (k : Int) := by omega
      by_cases c4 : bad[k] ≤ bad[m]
      · obtain rfl : B = false := by
          rw [← hB]; exact memB_no fun h => by
            have := List.pairwise_iff_getElem.1 h.asc m k hlm hlt (by omega)
            omega
        (repeat (first
    | (apply is_ok; (case hw => simp [g3, g4, g5, g6, k0, hlm, hlt, c1, c2, c3, c4, w0, w1, w2, q]); (case he => simp [g3, g4, g5, g6, k0, hlm, hlt, c1, c2, c3, c4, w0, w1, w2, q]; exact is_rfl))
    | (apply op_no; (case hw => simp [g3, g4, g5, g6, k0, hlm, hlt, c1, c2, c3, c4, w0, w1, w2, q]))
    | refine op_nil ?_ | refine next_normal ?_ | refine go_seq ?_ | refine go_region ?_ | refine go_skip ?_ | refine go_block ?_ | refine inb_normal ?_
    | (apply go_yes; (case hc => simp [g3, g4, g5, g6, k0, hlm, hlt, c1, c2, c3, c4, w0, w1, w2, q])) | (apply go_no; (case hc => simp [g3, g4, g5, g6, k0, hlm, hlt, c1, c2, c3, c4, w0, w1, w2, q]))
    | refine go_exit ?_ | refine next_exit ?_ | refine inb_here ?_ | refine inb_past (by decide) ?_ | refine go_ret ?_ | refine next_ret ?_ | refine inb_ret ?_))
        (apply ends_ok; (case h1 => simp; exact is_rfl); (case h2 => simp; exact is_rfl))
        simp
      · have nk2 := nk fun _ => by
          have e : bad[k - 1]'(by omega) = bad[m] := by simp only [hmk]
          rw [e]
          omega
        (repeat (first
    | (apply is_ok; (case hw => simp [g3, g4, g5, g6, k0, hlm, hlt, c1, c2, c3, c4, w0, w1, w2, q]); (case he => simp [g3, g4, g5, g6, k0, hlm, hlt, c1, c2, c3, c4, w0, w1, w2, q]; exact is_rfl))
    | (apply op_no; (case hw => simp [g3, g4, g5, g6, k0, hlm, hlt, c1, c2, c3, c4, w0, w1, w2, q]))
    | refine op_nil ?_ | refine next_normal ?_ | refine go_seq ?_ | refine go_region ?_ | refine go_skip ?_ | refine go_block ?_ | refine inb_normal ?_
    | (apply go_yes; (case hc => simp [g3, g4, g5, g6, k0, hlm, hlt, c1, c2, c3, c4, w0, w1, w2, q])) | (apply go_no; (case hc => simp [g3, g4, g5, g6, k0, hlm, hlt, c1, c2, c3, c4, w0, w1, w2, q]))
    | refine go_exit ?_ | refine next_exit ?_ | refine inb_here ?_ | refine inb_past (by decide) ?_ | refine go_ret ?_ | refine next_ret ?_ | refine inb_ret ?_))
        exact ⟨hlt, by simp [w1], nk2⟩
  · have : k = bad.length := by omega
    subst this
    rw [List.take_length] at hK
    obtain rfl : B = true := by rw [← hB]; exact memB_yes ⟨hz.1, hz.2.1, hz.2.2, hW, hK.1, hK.2⟩
    have g3 : ¬ (bad.length : Int) < bad.length := by omega
    (repeat (first
    | (apply is_ok; (case hw => simp [g3]); (case he => simp [g3]; exact is_rfl))
    | (apply op_no; (case hw => simp [g3]))
    | refine op_nil ?_ | refine next_normal ?_ | refine go_seq ?_ | refine go_region ?_ | refine go_skip ?_ | refine go_block ?_ | refine inb_normal ?_
    | (apply go_yes; (case hc => simp [g3])) | (apply go_no; (case hc => simp [g3]))
    | refine go_exit ?_ | refine next_exit ?_ | refine inb_here ?_ | refine inb_past (by decide) ?_ | refine go_ret ?_ | refine next_ret ?_ | refine inb_ret ?_))
    (apply ends_ok; (case h1 => simp; exact is_rfl); (case h2 => simp; exact is_rfl))
    simp

theorem and_ffff (x : Int) : IntKind.i64.wrap ((BitVec.ofInt 64 x &&& 65535#64).toNat : Int) = x % 65536 := by
  have h : (BitVec.ofInt 64 x &&& 65535#64).toNat = (x % 18446744073709551616).toNat % 65536 := by
    rw [BitVec.toNat_and, BitVec.toNat_ofInt]
    exact Nat.and_two_pow_sub_one_eq_mod _ 16
  rw [h, wrap_id (by omega) (by omega)]
  omega
theorem intOp_andF (x : Int) : intOp .and .i64 x 65535 = some (.int .i64 (x % 65536)) := by
  show some (V.int .i64 (IntKind.i64.wrap ((BitVec.ofInt 64 x &&& BitVec.ofInt 64 65535).toNat : Int))) = _
  rw [show BitVec.ofInt 64 65535 = 65535#64 from rfl, and_ffff x]
theorem intOp_add' (k : IntKind) (a b : Int) : intOp .add k a b = some (.int k (k.wrap (a + b))) := rfl
theorem intOp_mul' (k : IntKind) (a b : Int) : intOp .mul k a b = some (.int k (k.wrap (a * b))) := rfl
theorem intOp_eql' (k : IntKind) (a b : Int) : intOp .eql k a b = some (.bool (a == b)) := rfl
theorem intOp_neq' (k : IntKind) (a b : Int) : intOp .neq k a b = some (.bool (a != b)) := rfl
theorem intOp_lss' (k : IntKind) (a b : Int) : intOp .lss k a b = some (.bool (decide (a < b))) := rfl

theorem memRight_ok (mem bad : List Int) (hb : bad.length ≤ 1000000) (h : MemP mem bad) : bodyW DC 27 [.sl (ints mem), .sl (ints bad)] [] = some (.bool true, []) := by
  have hm := h.hi
  have v1 := sized_eq (2 * mem.length)
  have w0 : IntKind.i64.wrap (2 * (mem.length : Int)) = 2 * (mem.length : Int) := wrap_id (by omega) (by omega)
  push_cast at v1
  rw [decide_eq_true (show 256 ≤ 2 * mem.length ∧ 2 * mem.length ≤ 32768 ∧ 2 * mem.length % 64 = 0 from ⟨h.lo, h.hi, h.div⟩)] at v1
  (refine gives_iff ?_; refine go_func Try.f27 rfl rfl (by simp [Try.f27]) ?_; dsimp only [codeL, Try.f27, scL, sopsL, guardL, dstAt, loopKey])
  (repeat (first
    | (apply is_ok; (case hw => simp [v1, w0]); (case he => simp [v1, w0]; exact is_rfl))
    | (apply op_no; (case hw => simp [v1, w0]))
    | refine op_nil ?_ | refine next_normal ?_ | refine go_seq ?_ | refine go_region ?_ | refine go_skip ?_ | refine go_block ?_ | refine inb_normal ?_
    | (apply go_yes; (case hc => simp [v1, w0])) | (apply go_no; (case hc => simp [v1, w0]))
    | refine go_exit ?_ | refine next_exit ?_ | refine inb_here ?_ | refine inb_past (by decide) ?_ | refine go_ret ?_ | refine next_ret ?_ | refine inb_ret ?_))
  refine go_count mem.length (fun i => [(0, .sl (ints mem)), (1, .sl (ints bad)), (15, .sl (ints mem)), (16, .int .i64 mem.length), (17, .int .i64 i)]) (fun _ => []) (fun i => True) (by simp) trivial fun i hi _ => ?_
  by_cases hlt : i < mem.length
  · have g1 : (i : Int) < mem.length := by omega
    have g2 : mem[i]? = some mem[i] := List.getElem?_eq_getElem hlt
    have w1 : IntKind.i64.wrap ((i : Int) + 1) = (i : Int) + 1 := wrap_id (by omega) (by omega)
    have c1 := h.words _ (List.getElem_mem hlt)
    have c2 : mem[i] % 65536 = mem[i] := by omega
    (repeat (first
    | (apply is_ok; (case hw => simp [-intOp, intOp_andF, intOp_add', intOp_neq', intOp_lss', g1, g2, hlt, c2, w1]); (case he => simp [-intOp, intOp_andF, intOp_add', intOp_neq', intOp_lss', g1, g2, hlt, c2, w1]; exact is_rfl))
    | (apply op_no; (case hw => simp [-intOp, intOp_andF, intOp_add', intOp_neq', intOp_lss', g1, g2, hlt, c2, w1]))
    | refine op_nil ?_ | refine next_normal ?_ | refine go_seq ?_ | refine go_region ?_ | refine go_skip ?_ | refine go_block ?_ | refine inb_normal ?_
    | (apply go_yes; (case hc => simp [-intOp, intOp_andF, intOp_add', intOp_neq', intOp_lss', g1, g2, hlt, c2, w1])) | (apply go_no; (case hc => simp [-intOp, intOp_andF, intOp_add', intOp_neq', intOp_lss', g1, g2, hlt, c2, w1]))
    | refine go_exit ?_ | refine next_exit ?_ | refine inb_here ?_ | refine inb_past (by decide) ?_ | refine go_ret ?_ | refine next_ret ?_ | refine inb_ret ?_))
    exact ⟨hlt, by simp [w1], trivial⟩
  have g1 : ¬ (i : Int) < mem.length := by omega
  (repeat (first
    | (apply is_ok; (case hw => simp [g1]); (case he => simp [g1]; exact is_rfl))
    | (apply op_no; (case hw => simp [g1]))
    | refine op_nil ?_ | refine next_normal ?_ | refine go_seq ?_ | refine go_region ?_ | refine go_skip ?_ | refine go_block ?_ | refine inb_normal ?_
    | (apply go_yes; (case hc => simp [g1])) | (apply go_no; (case hc => simp [g1]))
    | refine go_exit ?_ | refine next_exit ?_ | refine inb_here ?_ | refine inb_past (by decide) ?_ | refine go_ret ?_ | refine next_ret ?_ | refine inb_ret ?_))
  refine go_count bad.length (fun i => [(0, .sl (ints mem)), (7, .int .i64 (if h : 0 < i ∧ i ≤ bad.length then bad[i - 1]'(by omega) else -1)), (26, .sl (ints bad)), (27, .int .i64 bad.length), (28, .int .i64 i)]) (fun _ => []) (fun i => True) (by simp) trivial fun k hk _ => ?_
  by_cases hlt : k < bad.length
  · have g3 : (k : Int) < bad.length := by omega
    have g4 : bad[k]? = some bad[k] := List.getElem?_eq_getElem hlt
    have w1 : IntKind.i64.wrap ((k : Int) + 1) = (k : Int) + 1 := wrap_id (by omega) (by omega)
    obtain ⟨c1, c2, c3⟩ := h.ok _ (List.getElem_mem hlt)
    have q : bad[k].tmod 2 = 0 := by rw [Int.tmod_eq_emod_of_nonneg c1]; exact c3
    have c4 : ¬ 2 * (mem.length : Int) ≤ bad[k] := by omega
    have e1 : (if h : 0 < k + 1 ∧ k + 1 ≤ bad.length then bad[k + 1 - 1]'(by omega) else -1) = bad[k] := by rw [dif_pos ⟨by omega, by omega⟩]; rfl
    rw [e1]
    have c5 : ¬ bad[k] ≤ (if h : 0 < k ∧ k ≤ bad.length then bad[k - 1]'(by omega) else -1) := by
      split
      · rename_i h0
        have := List.pairwise_iff_getElem.1 h.asc (k - 1) k (by omega) hlt (by omega)
        omega
      · omega
    generalize (if h : 0 < k ∧ k ≤ bad.length then bad[k - 1]'(by omega) else -1) = L at c5
    (repeat (first
    | (apply is_ok; (case hw => simp [g3, g4, hlt, c4, c5, q, w0, w1]); (case he => simp [g3, g4, hlt, c4, c5, q, w0, w1]; exact is_rfl))
    | (apply op_no; (case hw => simp [g3, g4, hlt, c4, c5, q, w0, w1]))
    | refine op_nil ?_ | refine next_normal ?_ | refine go_seq ?_ | refine go_region ?_ | refine go_skip ?_ | refine go_block ?_ | refine inb_normal ?_
    | (apply go_yes; (case hc => simp [g3, g4, hlt, c4, c5, q, w0, w1])) | (apply go_no; (case hc => simp [g3, g4, hlt, c4, c5, q, w0, w1]))
    | refine go_exit ?_ | refine next_exit ?_ | refine inb_here ?_ | refine inb_past (by decide) ?_ | refine go_ret ?_ | refine next_ret ?_ | refine inb_ret ?_))
    exact ⟨hlt, by simp [w1], trivial⟩
  · have g3 : ¬ (k : Int) < bad.length := by omega
    generalize (if h : 0 < k ∧ k ≤ bad.length then bad[k - 1]'(by omega) else -1) = L
    (repeat (first
    | (apply is_ok; (case hw => simp [g3]); (case he => simp [g3]; exact is_rfl))
    | (apply op_no; (case hw => simp [g3]))
    | refine op_nil ?_ | refine next_normal ?_ | refine go_seq ?_ | refine go_region ?_ | refine go_skip ?_ | refine go_block ?_ | refine inb_normal ?_
    | (apply go_yes; (case hc => simp [g3])) | (apply go_no; (case hc => simp [g3]))
    | refine go_exit ?_ | refine next_exit ?_ | refine inb_here ?_ | refine inb_past (by decide) ?_ | refine go_ret ?_ | refine next_ret ?_ | refine inb_ret ?_))
    (apply ends_ok; (case h1 => simp; exact is_rfl); (case h2 => simp; exact is_rfl))
    simp
end Go.Abs

namespace Go.Abs
open Go.Proofs
set_option maxRecDepth 100000
set_option linter.unusedSimpArgs false
set_option linter.unusedVariables false

theorem right_len {S : List (List UInt8)} {B : List Int} (h : RightP S B) : B.length ≤ S.length := by
  obtain ⟨h1, h2, h3, h4, h5⟩ := h
  have key : ∀ i, i < B.length → (i : Int) ≤ B.getD i 0 := fun i => by
    induction i with
    | zero =>
      intro hi
      have := h4 B[0] (List.getElem_mem hi)
      rw [List.getD_eq_getElem?_getD, List.getElem?_eq_getElem hi]
      exact this.1
    | succ i ih =>
      intro hi
      have h6 := ih (by omega)
      have h7 := h5 (i + 1) (List.mem_range.2 hi) (by omega)
      rw [Nat.add_sub_cancel] at h7
      omega
  rcases Nat.eq_zero_or_pos B.length with h0 | h0
  · omega
  · have h6 := key (B.length - 1) (by omega)
    have h7 := h4 (B.getD (B.length - 1) 0) (by rw [List.getD_eq_getElem?_getD, List.getElem?_eq_getElem (by omega)]; exact List.getElem_mem _)
    omega

noncomputable def fewB (s : Sys) : Bool := decide (s.mem.length ≤ 1024) && decide (s.bad.length ≤ 1024) && decide (s.S.length ≤ 64) && memB s.mem s.bad && decide (RightP s.S s.B)
theorem few_eq (s : Sys) (hs : s.Wf) : bodyW DC 22 [.agg s.cells] [] = some (.bool (fewB s), []) := by
  have v2 := RightR_eq s.S s.B hs.B
  unfold fewB
  by_cases h1 : s.mem.length ≤ 1024
  · have c1 : (s.mem.length : Int) ≤ 1024 := by omega
    by_cases h2 : s.bad.length ≤ 1024
    · have c2 : (s.bad.length : Int) ≤ 1024 := by omega
      by_cases h3 : s.S.length ≤ 64
      · have c3 : (s.S.length : Int) ≤ 64 := by omega
        have v1 := memRightR_eq s.mem s.bad (by omega) (by omega)
        generalize decide (RightP s.S s.B) = q at v2
        cases hq : memB s.mem s.bad <;>
        · rw [hq] at v1
          (refine gives_iff ?_; refine go_func Try.f22 rfl rfl (by simp [Try.f22]) ?_; dsimp only [codeL, Try.f22, scL, sopsL, guardL, dstAt, loopKey])
          (repeat (first
    | (apply is_ok; (case hw => simp [c1, c2, c3, v1, v2]); (case he => simp [c1, c2, c3, v1, v2]; exact is_rfl))
    | (apply op_no; (case hw => simp [c1, c2, c3, v1, v2]))
    | refine op_nil ?_ | refine next_normal ?_ | refine go_seq ?_ | refine go_region ?_ | refine go_skip ?_ | refine go_block ?_ | refine inb_normal ?_
    | (apply go_yes; (case hc => simp [c1, c2, c3, v1, v2])) | (apply go_no; (case hc => simp [c1, c2, c3, v1, v2]))
    | refine go_exit ?_ | refine next_exit ?_ | refine inb_here ?_ | refine inb_past (by decide) ?_ | refine go_ret ?_ | refine next_ret ?_ | refine inb_ret ?_))
          (apply ends_ok; (case h1 => simp; exact is_rfl); (case h2 => simp; exact is_rfl))
          simp [h1, h2, h3]
      · have c3 : ¬ (s.S.length : Int) ≤ 64 := by omega
        (refine gives_iff ?_; refine go_func Try.f22 rfl rfl (by simp [Try.f22]) ?_; dsimp only [codeL, Try.f22, scL, sopsL, guardL, dstAt, loopKey])
        (repeat (first
    | (apply is_ok; (case hw => simp [c1, c2, c3]); (case he => simp [c1, c2, c3]; exact is_rfl))
    | (apply op_no; (case hw => simp [c1, c2, c3]))
    | refine op_nil ?_ | refine next_normal ?_ | refine go_seq ?_ | refine go_region ?_ | refine go_skip ?_ | refine go_block ?_ | refine inb_normal ?_
    | (apply go_yes; (case hc => simp [c1, c2, c3])) | (apply go_no; (case hc => simp [c1, c2, c3]))
    | refine go_exit ?_ | refine next_exit ?_ | refine inb_here ?_ | refine inb_past (by decide) ?_ | refine go_ret ?_ | refine next_ret ?_ | refine inb_ret ?_))
        (apply ends_ok; (case h1 => simp; exact is_rfl); (case h2 => simp; exact is_rfl))
        simp [h3]
    · have c2 : ¬ (s.bad.length : Int) ≤ 1024 := by omega
      (refine gives_iff ?_; refine go_func Try.f22 rfl rfl (by simp [Try.f22]) ?_; dsimp only [codeL, Try.f22, scL, sopsL, guardL, dstAt, loopKey])
      (repeat (first
    | (apply is_ok; (case hw => simp [c1, c2]); (case he => simp [c1, c2]; exact is_rfl))
    | (apply op_no; (case hw => simp [c1, c2]))
    | refine op_nil ?_ | refine next_normal ?_ | refine go_seq ?_ | refine go_region ?_ | refine go_skip ?_ | refine go_block ?_ | refine inb_normal ?_
    | (apply go_yes; (case hc => simp [c1, c2])) | (apply go_no; (case hc => simp [c1, c2]))
    | refine go_exit ?_ | refine next_exit ?_ | refine inb_here ?_ | refine inb_past (by decide) ?_ | refine go_ret ?_ | refine next_ret ?_ | refine inb_ret ?_))
      (apply ends_ok; (case h1 => simp; exact is_rfl); (case h2 => simp; exact is_rfl))
      simp [h2]
  · have c1 : ¬ (s.mem.length : Int) ≤ 1024 := by omega
    (refine gives_iff ?_; refine go_func Try.f22 rfl rfl (by simp [Try.f22]) ?_; dsimp only [codeL, Try.f22, scL, sopsL, guardL, dstAt, loopKey])
    (repeat (first
    | (apply is_ok; (case hw => simp [c1]); (case he => simp [c1]; exact is_rfl))
    | (apply op_no; (case hw => simp [c1]))
    | refine op_nil ?_ | refine next_normal ?_ | refine go_seq ?_ | refine go_region ?_ | refine go_skip ?_ | refine go_block ?_ | refine inb_normal ?_
    | (apply go_yes; (case hc => simp [c1])) | (apply go_no; (case hc => simp [c1]))
    | refine go_exit ?_ | refine next_exit ?_ | refine inb_here ?_ | refine inb_past (by decide) ?_ | refine go_ret ?_ | refine next_ret ?_ | refine inb_ret ?_))
    (apply ends_ok; (case h1 => simp; exact is_rfl); (case h2 => simp; exact is_rfl))
    simp [h1]

/-- A system of the laws. -/
structure Nice (s : Sys) : Prop where
  wf : s.Wf
  fine : Fine s
  mem : MemP s.mem s.bad
  drv : RightP s.S s.B
  badl : s.bad.length ≤ 1024
theorem nice_of {s : Sys} (hs : s.Wf) (h1 : fewB s = true) (h2 : rightB s = true) : Nice s := by
  unfold fewB at h1
  simp only [Bool.and_eq_true, decide_eq_true_eq] at h1
  obtain ⟨⟨⟨⟨a1, a2⟩, a3⟩, a4⟩, a5⟩ := h1
  have hm := memB_iff.1 a4
  have hr : rightP s := by
    by_cases hc : rightP s
    · exact hc
    · rw [rightB_no hc] at h2; cases h2
  rw [rightB_yes hr, Bool.and_eq_true] at h2
  exact ⟨hs, ⟨a1, a3, by have := right_len a5; omega, hm.words, hr, apB_iff.1 h2.1, apB_iff.1 h2.2⟩, hm, a5, a2⟩

/-- A process is swapped out: which one, where to, and the sectors behind. -/
structure OutOk (s : Sys) (k : Int) (i : Nat) (p : Pr) (n0 : Int) (T : List (List UInt8)) : Prop where
  hk : k = i
  hp : s.ps[i]? = some p
  has : hasP p
  swd : p.swd = false
  fit : fitN (swpL s.ps) s.sw (secN p.blk) = some n0
  ok : OkAll s.S.length s.B (outW (bytesL s.mem (p.base.toNat * 64) (p.blk.toNat * 64)) n0 (secN p.blk).toNat)
  hT : T = puts s.S (outW (bytesL s.mem (p.base.toNat * 64) (p.blk.toNat * 64)) n0 (secN p.blk).toNat)
  run : bodyW DC 23 [.agg s.cells, .int .i64 k] [] = some (.tuple [.agg ((s.setP i { p with base := n0, swd := true }).cw (.sl (ints s.mem)) (.sl (ints s.bad)) (.own 0 s.S.length 0 s.S.length) (.own 1 s.B.length 0 s.B.length)), .int .i64 0], [.dat true 1 (strs T), .dat true 1 (ints s.B)])

theorem Out_cases (s : Sys) (h : Nice s) (k : Int) : (∃ e, e ≠ 0 ∧ bodyW DC 23 [.agg s.cells, .int .i64 k] [] = some (.tuple [.agg zN, .int .i64 e], [])) ∨ ∃ i p n0 T, OutOk s k i p n0 T := by
  cases hb : imgB s.ps k false with
  | false => exact .inl ⟨1, by decide, Out_no s k hb⟩
  | true =>
    obtain ⟨i, p, rfl, hp, h1, h2⟩ := imgB_iff.1 hb
    cases hf : fitN (swpL s.ps) s.sw (secN p.blk) with
    | none => exact .inl ⟨12, by decide, Out_full s h.fine i p hp h1 h2 h.wf.ps hf⟩
    | some n0 =>
      obtain ⟨c1, c2, c3, c4, c5, c6⟩ := core_in h.fine (List.mem_of_getElem? hp) h1 h2
      obtain ⟨s1, s2, s3⟩ := secN_bound c4 c5
      have hroom := ((fit_least (l := swpL s.ps) (w := s.sw) (k := secN p.blk) s1).1 n0 hf).1
      have u := h.fine.right.2.1
      have r1 := hroom.2.1
      have r2 := hroom.2.2
      have u1 := u.1
      have u2 := u.2.1
      have u3 := u.2.2.2
      have hw := Out_walk s h.fine i p hp h1 h2 h.wf.ps n0 hf ⟨by omega, by omega⟩
      by_cases hz : (outR s p n0).2.2 = 0
      · rw [if_pos hz] at hw
        have hok : OkAll s.S.length s.B (outW (bytesL s.mem (p.base.toNat * 64) (p.blk.toNat * 64)) n0 (secN p.blk).toNat) := by
          by_cases hc : OkAll s.S.length s.B (outW (bytesL s.mem (p.base.toNat * 64) (p.blk.toNat * 64)) n0 (secN p.blk).toNat)
          · exact hc
          · exact absurd hz (applyS_err s.B _ _ 0 hc).1
        have hT : (outR s p n0).1 = puts s.S (outW (bytesL s.mem (p.base.toNat * 64) (p.blk.toNat * 64)) n0 (secN p.blk).toNat) := by
          unfold outR
          rw [applyS_all s.B _ _ 0 hok]
        exact .inr ⟨i, p, n0, (outR s p n0).1, rfl, hp, h1, h2, hf, hok, hT, hw⟩
      · rw [if_neg hz] at hw
        exact .inl ⟨_, hz, hw⟩

/-- A process is swapped in. -/
structure InOk (s : Sys) (k : Int) (i : Nat) (p : Pr) (n0 : Int) (M Z : List Int) (c : Nat) : Prop where
  hk : k = i
  hp : s.ps[i]? = some p
  has : hasP p
  swd : p.swd = true
  fit : fitN (coreL s.ps) s.co p.blk = some n0
  hM : M = storeN s.mem (n0.toNat * 64) (inT s p) (inT s p).length
  hZ : Z = (s.bad.filter fun a => !inR (n0 * 64) (p.blk * 64) a) ++ List.replicate (s.bad.length - (s.bad.filter fun a => !inR (n0 * 64) (p.blk * 64) a).length) 0
  hc : c = (s.bad.filter fun a => !inR (n0 * 64) (p.blk * 64) a).length
  run : bodyW DC 24 [.agg s.cells, .int .i64 k] [] = some (.tuple [.agg ((s.setP i { p with base := n0, swd := false }).cw (.own 0 s.mem.length 0 s.mem.length) (.own 1 s.bad.length 0 c) (.sl (strs s.S)) (.sl (ints s.B))), .int .i64 0], [.dat true 1 (ints M), .dat true 1 (ints Z)])

theorem In_cases (s : Sys) (h : Nice s) (k : Int) : (∃ e, e ≠ 0 ∧ bodyW DC 24 [.agg s.cells, .int .i64 k] [] = some (.tuple [.agg zN, .int .i64 e], [])) ∨ ∃ i p n0 M Z c, InOk s k i p n0 M Z c := by
  cases hb : imgB s.ps k true with
  | false => exact .inl ⟨1, by decide, In_no s k hb⟩
  | true =>
    obtain ⟨i, p, rfl, hp, h1, h2⟩ := imgB_iff.1 hb
    cases hf : fitN (coreL s.ps) s.co p.blk with
    | none => exact .inl ⟨26, by decide, In_full s h.fine i p hp h1 h2 hf⟩
    | some n0 =>
      by_cases hall : ∀ j : Nat, (j : Int) < secN p.blk → (readS s.S s.B (p.base + j)).2 = 0
      · exact .inr ⟨i, p, n0, _, _, _, rfl, hp, h1, h2, hf, rfl, rfl, rfl, In_ok s h.fine i p hp h1 h2 h.wf.ps h.badl h.drv n0 hf hall⟩
      · have hex : ∃ j : Nat, (j : Int) < secN p.blk ∧ (readS s.S s.B (p.base + j)).2 ≠ 0 := by
          by_cases hc : ∃ j : Nat, (j : Int) < secN p.blk ∧ (readS s.S s.B (p.base + j)).2 ≠ 0
          · exact hc
          · exact absurd (fun j hj => Classical.byContradiction fun hn => hc ⟨j, hj, hn⟩) hall
        have hwf : ∀ m : Nat, ∀ j : Nat, j ≤ m → (j : Int) < secN p.blk → (readS s.S s.B (p.base + j)).2 ≠ 0 → ∃ j0 : Nat, (j0 : Int) < secN p.blk ∧ (readS s.S s.B (p.base + j0)).2 ≠ 0 ∧ ∀ q : Nat, q < j0 → (readS s.S s.B (p.base + q)).2 = 0 := by
          intro m
          induction m with
          | zero => intro j hj h3 h4; exact ⟨j, h3, h4, fun q hq => by omega⟩
          | succ m ih =>
            intro j hj h3 h4
            by_cases hq : ∃ q : Nat, q < j ∧ (readS s.S s.B (p.base + q)).2 ≠ 0
            · obtain ⟨q, q1, q2⟩ := hq
              exact ih q (by omega) (by omega) q2
            · exact ⟨j, h3, h4, fun q hq' => Classical.byContradiction fun hn => hq ⟨q, hq', hn⟩⟩
        obtain ⟨j, h3, h4⟩ := hex
        obtain ⟨j0, a1, a2, a3⟩ := hwf j j (Nat.le_refl _) h3 h4
        exact .inl ⟨_, a2, In_err s h.fine i p hp h1 h2 h.wf.ps h.drv n0 hf j0 a1 a2 a3⟩
end Go.Abs

namespace Go.Abs
open Go.Proofs
set_option maxRecDepth 100000
set_option linter.unusedSimpArgs false
set_option linter.unusedVariables false

theorem apP_iff (l : List Ex) (w : Ex) : apP l w ↔ (∀ y ∈ l, inP w y) ∧ l.Pairwise fun a b => ¬ meetP b a := by
  constructor
  · intro h
    refine ⟨fun y hy => ?_, ?_⟩
    · obtain ⟨j, hj, rfl⟩ := List.mem_iff_getElem.1 hy
      exact (h j hj).1
    · rw [List.pairwise_iff_getElem]
      exact fun i j hi hj hij => (h j hj).2 i hij
  · rintro ⟨h1, h2⟩ i hi
    rw [List.pairwise_iff_getElem] at h2
    exact ⟨h1 _ (List.getElem_mem hi), fun j hj => h2 j i (by omega) hi hj⟩
theorem meet_sym {a b : Ex} (h : ¬ meetP a b) : ¬ meetP b a := fun hm => h ((meetP_comm _ _).1 hm)
theorem apP_mid {A C : List Ex} {y w : Ex} (h : apP (A ++ C) w) (hin : inP w y) (hy : ∀ z ∈ A ++ C, ¬ meetP y z) : apP (A ++ y :: C) w := by
  rw [apP_iff] at h ⊢
  obtain ⟨h1, h2⟩ := h
  rw [List.pairwise_append] at h2 ⊢
  obtain ⟨p1, p2, p3⟩ := h2
  refine ⟨fun z hz => ?_, p1, List.pairwise_cons.2 ⟨fun z hz => meet_sym (hy z (by simp [hz])), p2⟩, fun a ha b hb => ?_⟩
  · simp only [List.mem_append, List.mem_cons] at hz
    rcases hz with hz | rfl | hz
    · exact h1 z (by simp [hz])
    · exact hin
    · exact h1 z (by simp [hz])
  · rcases List.mem_cons.1 hb with rfl | hb
    · exact hy a (by simp [ha])
    · exact p3 a ha b hb
theorem apP_out {A C : List Ex} {y w : Ex} (h : apP (A ++ y :: C) w) : apP (A ++ C) w ∧ ∀ z ∈ A ++ C, ¬ meetP y z := by
  rw [apP_iff] at h
  obtain ⟨h1, h2⟩ := h
  rw [List.pairwise_append, List.pairwise_cons] at h2
  obtain ⟨p1, ⟨p2, p3⟩, p4⟩ := h2
  refine ⟨?_, fun z hz => ?_⟩
  · rw [apP_iff, List.pairwise_append]
    exact ⟨fun z hz => h1 z (by simp at hz ⊢; rcases hz with h | h <;> simp [h]), p1, p3, fun a ha b hb => p4 a ha b (by simp [hb])⟩
  · rcases List.mem_append.1 hz with hz | hz
    · exact p4 z hz y (by simp)
    · exact meet_sym (p2 z hz)

theorem coreL_app (A C : List Pr) : coreL (A ++ C) = coreL A ++ coreL C := by simp [coreL, List.filter_append]
theorem swpL_app (A C : List Pr) : swpL (A ++ C) = swpL A ++ swpL C := by simp [swpL, List.filter_append]
theorem coreL_cons_in {p : Pr} (C : List Pr) (h : hasP p) (h2 : p.swd = false) : coreL (p :: C) = (p.base, p.blk) :: coreL C := by simp [coreL, h, h2]
theorem coreL_cons_out {p : Pr} (C : List Pr) (h2 : p.swd = true) : coreL (p :: C) = coreL C := by simp [coreL, h2]
theorem swpL_cons_in {p : Pr} (C : List Pr) (h : hasP p) (h2 : p.swd = true) : swpL (p :: C) = (p.base, secN p.blk) :: swpL C := by simp [swpL, h, h2]
theorem swpL_cons_out {p : Pr} (C : List Pr) (h2 : p.swd = false) : swpL (p :: C) = swpL C := by simp [swpL, h2]
theorem split_at {ps : List Pr} {i : Nat} {p : Pr} (h : ps[i]? = some p) : ∃ A C, ps = A ++ p :: C ∧ ∀ q : Pr, ps.set i q = A ++ q :: C := by
  obtain ⟨hi, rfl⟩ := List.getElem?_eq_some_iff.1 h
  refine ⟨ps.take i, ps.drop (i + 1), ?_, fun q => by rw [List.set_eq_take_append_cons_drop, if_pos hi]⟩
  rw [← List.drop_eq_getElem_cons hi, List.take_append_drop]

/-- The bytes of a memory in which bytes were stored. -/
theorem byteAt_set {mem : List Int} (hw : Words mem) {k j : Nat} {b : UInt8} (hk : k / 2 < mem.length) : byteAt (setByte mem k b) j = if j = k then b else byteAt mem j := by
  have bw := getD_words hw (k / 2)
  have hb := b.toNat_lt
  by_cases hd : j / 2 = k / 2
  · have e : (setByte mem k b).getD (j / 2) 0 = updB (mem.getD (k / 2) 0) (k % 2) b := by
      rw [List.getD_eq_getElem?_getD, setByte, hd, List.getElem?_set_self hk]
      rfl
    unfold byteAt
    rw [e, hd]
    generalize mem.getD (k / 2) 0 = w at bw
    have hm : j % 2 = 0 ∨ j % 2 = 1 := Nat.mod_two_eq_zero_or_one j
    have hm2 : k % 2 = 0 ∨ k % 2 = 1 := Nat.mod_two_eq_zero_or_one k
    have f0 : ∀ x : Int, x.fdiv (2 ^ (0 * 8)) = x := fun x => by simp
    have f1 : ∀ x : Int, x.fdiv (2 ^ (1 * 8)) = x / 256 := fun x => by rw [Int.fdiv_eq_ediv_of_nonneg _ (by decide)]; rfl
    have ub : ∀ x : Int, x = b.toNat → UInt8.ofNat x.toNat = b := fun x hx => by rw [hx, Int.toNat_natCast]; exact UInt8.ofNat_toNat
    rcases hm with h1 | h1 <;> rcases hm2 with h2 | h2
    · rw [if_pos (by omega), h1, h2, f0]
      exact ub _ (by unfold updB; rw [if_pos rfl]; omega)
    · rw [if_neg (by omega), h1, h2, f0, f0]
      congr 2
      unfold updB
      rw [if_neg (by decide)]
      omega
    · rw [if_neg (by omega), h1, h2, f1, f1]
      congr 2
      unfold updB
      rw [if_pos rfl]
      omega
    · rw [if_pos (by omega), h1, h2, f1]
      exact ub _ (by unfold updB; rw [if_neg (by decide)]; omega)
  · rw [if_neg (by intro h; exact hd (by rw [h]))]
    unfold byteAt
    rw [List.getD_eq_getElem?_getD, List.getD_eq_getElem?_getD, setByte, List.getElem?_set_ne (by omega)]
theorem byteAt_store {mem : List Int} (hw : Words mem) {a : Nat} {t : List UInt8} (j : Nat) : ∀ (i : Nat), a + i ≤ 2 * mem.length → byteAt (storeN mem a t i) j = if a ≤ j ∧ j < a + i then t.getD (j - a) 0 else byteAt mem j
  | 0, _ => by rw [if_neg (by omega)]; rfl
  | i + 1, h => by
    rw [storeN, byteAt_set (storeN_words hw a t i) (by rw [storeN_len]; omega), byteAt_store hw j i (by omega)]
    by_cases h1 : j = a + i
    · rw [if_pos h1, if_pos (by omega), show j - a = i by omega]
    · rw [if_neg h1]
      by_cases h2 : a ≤ j ∧ j < a + i
      · rw [if_pos h2, if_pos (by omega)]
      · rw [if_neg h2, if_neg (by omega)]
theorem bytes_back {mem : List Int} (hw : Words mem) {a : Nat} {t : List UInt8} (h : a + t.length ≤ 2 * mem.length) : bytesL (storeN mem a t t.length) a t.length = t := by
  unfold bytesL
  apply List.ext_getElem
  · simp
  · intro i h1 h2
    rw [List.getElem_map, List.getElem_range, byteAt_store hw _ _ h, if_pos (by omega), show a + i - a = i by omega, List.getD_eq_getElem?_getD, List.getElem?_eq_getElem h2]
    rfl
theorem bytes_far {mem : List Int} (hw : Words mem) {a c n : Nat} {t : List UInt8} (h : a + t.length ≤ 2 * mem.length) (hd : c + n ≤ a ∨ a + t.length ≤ c) : bytesL (storeN mem a t t.length) c n = bytesL mem c n := by
  unfold bytesL
  apply List.map_congr_left
  intro i hi
  have := List.mem_range.1 hi
  rw [byteAt_store hw _ _ h, if_neg (by omega)]

/-- The sectors that were written. -/
theorem puts_app (S : List (List UInt8)) (l : List (Int × List UInt8)) (w : Int × List UInt8) : puts S (l ++ [w]) = putS (puts S l) w := by simp [puts]
theorem puts_outW (S : List (List UInt8)) (t : List UInt8) (n0 : Nat) : ∀ (n : Nat), n0 + n ≤ S.length → ∀ j, j < n → (puts S (outW t n0 n)).getD (n0 + j) [] = secT t j ++ List.replicate (128 - (secT t j).length) 0
  | 0, _, j, hj => by omega
  | n + 1, h, j, hj => by
    rw [outW_succ, puts_app]
    unfold putS
    rw [show ((n0 : Int) + (n : Int)).toNat = n0 + n by omega]
    by_cases hjn : j = n
    · subst hjn
      rw [List.getD_eq_getElem?_getD, List.getElem?_set_self (by rw [puts_length]; omega)]
      rfl
    · rw [List.getD_eq_getElem?_getD, List.getElem?_set_ne (by omega), ← List.getD_eq_getElem?_getD, puts_outW S t n0 n (by omega) j (by omega)]
theorem secT_eq (t : List UInt8) (i : Nat) : secT t i = (t.drop (128 * i)).take 128 := by
  unfold secT
  rw [List.drop_take]
  by_cases h : i * 128 ≤ t.length
  · rw [Nat.mul_comm i 128, List.take_eq_take_iff, List.length_drop]
    omega
  · rw [List.drop_eq_nil_of_le (by omega), List.drop_eq_nil_of_le (by omega)]
    simp
theorem cat_back {S : List (List UInt8)} {t : List UInt8} {n0 n : Nat} (h : n0 + n ≤ S.length) (hn : t.length ≤ 128 * n ∧ 128 * n < t.length + 128) : (catS (puts S (outW t n0 n)) n0 n).take t.length = t := by
  have key : ∀ i, i ≤ n → catS (puts S (outW t n0 n)) n0 i = t.take (128 * i) ++ List.replicate (128 * i - t.length) 0 := fun i => by
    induction i with
    | zero => intro _; simp [catS]
    | succ i ih =>
      intro hi
      rw [catS_succ, ih (by omega), puts_outW S t n0 n h i (by omega), secT_eq, show 128 * i - t.length = 0 by omega, List.replicate_zero, List.append_nil, ← List.append_assoc]
      have e : t.take (128 * i) ++ (t.drop (128 * i)).take 128 = t.take (128 * (i + 1)) := by
        rw [show 128 * (i + 1) = 128 * i + 128 by omega, List.take_add]
      rw [e]
      congr 2
      rw [List.length_take, List.length_drop]
      omega
  rw [key n (Nat.le_refl _), List.take_of_length_le hn.1, List.take_left]
end Go.Abs

namespace Go.Abs
open Go.Proofs
set_option maxRecDepth 100000
set_option linter.unusedSimpArgs false
set_option linter.unusedVariables false

/-- The system behind a swapping out. -/
def outX (s : Sys) (i : Nat) (p : Pr) (n0 : Int) (T : List (List UInt8)) : Sys := { s.setP i { p with base := n0, swd := true } with S := T }
/-- The system behind a swapping in. -/
def inY (x : Sys) (i : Nat) (p : Pr) (n1 : Int) (M Z : List Int) : Sys := { x.setP i { p with base := n1, swd := false } with mem := M, bad := Z }

section
variable {s : Sys} {k : Int} {i : Nat} {p : Pr} {n0 : Int} {T : List (List UInt8)}
theorem out_room (h : Nice s) (o : OutOk s k i p n0 T) : roomP (swpL s.ps) s.sw (secN p.blk) n0 ∧ 0 ≤ n0 ∧ n0 + secN p.blk ≤ s.S.length ∧ 0 < secN p.blk ∧ secN p.blk = p.blk / 2 + p.blk % 2 ∧ secN p.blk ≤ 1048576 := by
  obtain ⟨c1, c2, c3, c4, c5, c6⟩ := core_in h.fine (List.mem_of_getElem? o.hp) o.has o.swd
  obtain ⟨s1, s2, s3⟩ := secN_bound c4 c5
  have hroom := ((fit_least (l := swpL s.ps) (w := s.sw) (k := secN p.blk) s1).1 n0 o.fit).1
  have u := h.fine.right.2.1.1
  have r1 := hroom.2.1
  have r2 := hroom.2.2
  have c := h.fine.right.2.2.2.1
  have h5 : 0 < s.sw.2 := by omega
  have h6 : ¬ (s.S.length : Int) < s.sw.1 + s.sw.2 := fun h => c ⟨h5, h⟩
  exact ⟨hroom, by omega, by omega, s1, s3, s2⟩

theorem nice_out (h : Nice s) (o : OutOk s k i p n0 T) : Nice (outX s i p n0 T) := by
  obtain ⟨room, b0, b1, b2, b3, b4⟩ := out_room h o
  have hTl : T.length = s.S.length := by rw [o.hT]; exact puts_length _ _
  have hTr : RightP T s.B := by rw [o.hT]; exact RightP_puts _ _ h.drv o.ok
  obtain ⟨A, C, e1, e2⟩ := split_at o.hp
  have hSl := h.fine.S
  have hwp : ∀ q ∈ s.ps, q.Wf := h.wf.ps
  have hpm := List.mem_of_getElem? o.hp
  have hx : (outX s i p n0 T).ps = A ++ { p with base := n0, swd := true } :: C := e2 _
  have hmem : ∀ q ∈ (outX s i p n0 T).ps, q = { p with base := n0, swd := true } ∨ q ∈ s.ps := fun q hq => by
    rw [hx] at hq
    rw [e1]
    simp only [List.mem_append, List.mem_cons] at hq ⊢
    rcases hq with h | h | h <;> simp [h]
  have hw2 : Pr.Wf { p with base := n0, swd := true } := ⟨(hwp p hpm).1, ⟨by show _ ≤ n0; omega, by show n0 ≤ _; omega⟩, (hwp p hpm).2.2⟩
  have hco := h.fine.core
  have hsw := h.fine.swap
  rw [e1, coreL_app, coreL_cons_in _ o.has o.swd] at hco
  rw [e1, swpL_app, swpL_cons_out _ o.swd] at hsw
  have hroom := room.1
  rw [e1, swpL_app, swpL_cons_out _ o.swd] at hroom
  refine ⟨⟨fun q hq => ?_, h.wf.mem, h.wf.memw, h.wf.bad, h.wf.badw, ?_, h.wf.B⟩, ⟨h.fine.mem, ?_, h.fine.B, h.fine.words, ⟨h.fine.right.1, h.fine.right.2.1, h.fine.right.2.2.1, ?_, fun q hq hh => ?_⟩, ?_, ?_⟩, h.mem, hTr, h.badl⟩
  · rcases hmem q hq with rfl | hq
    · exact hw2
    · exact hwp q hq
  · show T.length ≤ maxLen
    rw [hTl]; exact h.wf.S
  · show T.length ≤ 64
    omega
  · show ¬ (0 < s.sw.2 ∧ (T.length : Int) < _)
    rw [hTl]
    exact h.fine.right.2.2.2.1
  · rcases hmem q hq with rfl | hq
    · have := h.fine.right.2.2.2.2 p hpm o.has
      exact ⟨b0, by show n0 ≤ 1048576; omega, this.2.2.1, this.2.2.2⟩
    · exact h.fine.right.2.2.2.2 q hq hh
  · rw [hx, coreL_app, coreL_cons_out _ rfl]
    exact (apP_out hco).1
  · rw [hx, swpL_app, swpL_cons_in _ (show hasP { p with base := n0, swd := true } from o.has) rfl]
    exact apP_mid hsw ⟨room.2.1, room.2.2⟩ hroom

theorem out_back (h : Nice s) (o : OutOk s k i p n0 T) : ∃ n1 M Z c, InOk (outX s i p n0 T) k i { p with base := n0, swd := true } n1 M Z c ∧ inT (outX s i p n0 T) { p with base := n0, swd := true } = bytesL s.mem (p.base.toNat * 64) (p.blk.toNat * 64) := by
  obtain ⟨room, b0, b1, b2, b3, b4⟩ := out_room h o
  obtain ⟨c1, c2, c3, c4, c5, c6⟩ := core_in h.fine (List.mem_of_getElem? o.hp) o.has o.swd
  have hx := nice_out h o
  have hTl : T.length = s.S.length := by rw [o.hT]; exact puts_length _ _
  obtain ⟨A, C, e1, e2⟩ := split_at o.hp
  have hil := (List.getElem?_eq_some_iff.1 o.hp).1
  have hxp : (outX s i p n0 T).ps[i]? = some { p with base := n0, swd := true } := List.getElem?_set_self hil
  have hxs : (outX s i p n0 T).ps = A ++ { p with base := n0, swd := true } :: C := e2 _
  have hco := h.fine.core
  rw [e1, coreL_app, coreL_cons_in _ o.has o.swd] at hco
  have hf : ∃ n1, fitN (coreL (outX s i p n0 T).ps) s.co p.blk = some n1 := by
    cases hc : fitN (coreL (outX s i p n0 T).ps) s.co p.blk with
    | some n1 => exact ⟨n1, rfl⟩
    | none =>
      refine absurd ⟨?_, c1.1, c1.2⟩ ((fit_least (by omega)).2 hc p.base)
      rw [hxs, coreL_app, coreL_cons_out _ rfl]
      exact (apP_out hco).2
  obtain ⟨n1, hf⟩ := hf
  have hrd : ∀ j : Nat, (j : Int) < secN p.blk → (readS T s.B (n0 + j)).2 = 0 := fun j hj => by
    have hm : (n0 + (j : Int), secT (bytesL s.mem (p.base.toNat * 64) (p.blk.toNat * 64)) j) ∈ outW (bytesL s.mem (p.base.toNat * 64) (p.blk.toNat * 64)) n0 (secN p.blk).toNat := List.mem_map.2 ⟨j, List.mem_range.2 (by omega), rfl⟩
    have hb := (faultI_zero.1 (o.ok _ hm)).2.2
    unfold readS
    rw [if_pos (by omega), if_neg hb]
  have run := In_ok (outX s i p n0 T) hx.fine i _ hxp o.has rfl hx.wf.ps hx.badl hx.drv n1 hf hrd
  refine ⟨n1, _, _, _, ⟨o.hk, hxp, o.has, rfl, hf, rfl, rfl, rfl, by rw [o.hk]; exact run⟩, ?_⟩
  have hb := cat_back (S := s.S) (t := bytesL s.mem (p.base.toNat * 64) (p.blk.toNat * 64)) (n0 := n0.toNat) (n := (secN p.blk).toNat) (by omega) (by rw [bytesL_len]; omega)
  rw [bytesL_len, show ((n0.toNat : Nat) : Int) = n0 by omega] at hb
  unfold inT outX
  dsimp only
  rw [o.hT]
  exact hb
end
end Go.Abs

namespace Go.Abs
open Go.Proofs
set_option maxRecDepth 100000
set_option linter.unusedSimpArgs false
set_option linter.unusedVariables false

theorem nice_right {s : Sys} (h : Nice s) : rightB s = true := by
  rw [rightB_yes h.fine.right, apB_iff.2 h.fine.core, apB_iff.2 h.fine.swap]
  rfl
theorem inT_len' (s : Sys) (p : Pr) : (inT s p).length ≤ p.blk.toNat * 64 := by unfold inT; rw [List.length_take]; omega
section
variable {x : Sys} {k : Int} {i : Nat} {q : Pr} {n1 : Int} {M Z : List Int} {c : Nat}
/-- The bad addresses that are left. -/
def keptB (x : Sys) (q : Pr) (n1 : Int) : List Int := x.bad.filter fun a => !inR (n1 * 64) (q.blk * 64) a
theorem in_room (h : Nice x) (o : InOk x k i q n1 M Z c) : roomP (coreL x.ps) x.co q.blk n1 ∧ 0 ≤ n1 ∧ (n1 + q.blk) * 32 ≤ x.mem.length ∧ 1 ≤ q.blk ∧ n1 ≤ 1048576 := by
  obtain ⟨c1, c2, c3, c4, c5, c6⟩ := swp_in h.fine (List.mem_of_getElem? o.hp) o.has o.swd
  have hroom := ((fit_least (l := coreL x.ps) (w := x.co) (k := q.blk) (by omega)).1 n1 o.fit).1
  have u := h.fine.right.1.1
  have r1 := hroom.2.1
  have r2 := hroom.2.2
  have c := h.fine.right.2.2.1
  have h5 : 0 < x.co.2 := by omega
  have h6 : ¬ (x.mem.length : Int) < (x.co.1 + x.co.2) * 32 := fun h => c ⟨h5, h⟩
  have hm := h.fine.mem
  exact ⟨hroom, by omega, by omega, c4, by omega⟩
theorem in_mem (h : Nice x) (o : InOk x k i q n1 M Z c) : M.length = x.mem.length ∧ MemP M (keptB x q n1) := by
  have hl : M.length = x.mem.length := by rw [o.hM]; simp
  have hm := h.mem
  refine ⟨hl, by rw [hl]; exact hm.lo, by rw [hl]; exact hm.hi, by rw [hl]; exact hm.div, by rw [o.hM]; exact storeN_words hm.words _ _ _, fun a ha => ?_, hm.asc.filter _⟩
  rw [hl]
  exact hm.ok a (List.mem_filter.1 ha).1
theorem in_right (h : Nice x) (o : InOk x k i q n1 M Z c) : rightB (inY x i q n1 M (keptB x q n1)) = true := by
  obtain ⟨room, b0, b1, b2, b3⟩ := in_room h o
  obtain ⟨hl, _⟩ := in_mem h o
  obtain ⟨A, C, e1, e2⟩ := split_at o.hp
  have hpm := List.mem_of_getElem? o.hp
  have hy : (inY x i q n1 M (keptB x q n1)).ps = A ++ { q with base := n1, swd := false } :: C := e2 _
  have hmem : ∀ r ∈ (inY x i q n1 M (keptB x q n1)).ps, r = { q with base := n1, swd := false } ∨ r ∈ x.ps := fun r hr => by
    rw [hy] at hr
    rw [e1]
    simp only [List.mem_append, List.mem_cons] at hr ⊢
    rcases hr with h | h | h <;> simp [h]
  have hco := h.fine.core
  have hsw := h.fine.swap
  rw [e1, coreL_app, coreL_cons_out _ o.swd] at hco
  rw [e1, swpL_app, swpL_cons_in _ o.has o.swd] at hsw
  have hroom := room.1
  rw [e1, coreL_app, coreL_cons_out _ o.swd] at hroom
  have hr : rightP (inY x i q n1 M (keptB x q n1)) := by
    refine ⟨h.fine.right.1, h.fine.right.2.1, ?_, h.fine.right.2.2.2.1, fun r hr hh => ?_⟩
    · show ¬ (0 < x.co.2 ∧ (M.length : Int) < _)
      rw [hl]
      exact h.fine.right.2.2.1
    · rcases hmem r hr with rfl | hr
      · have := h.fine.right.2.2.2.2 q hpm o.has
        exact ⟨b0, b3, this.2.2.1, this.2.2.2⟩
      · exact h.fine.right.2.2.2.2 r hr hh
  have h1 : apP (coreL (inY x i q n1 M (keptB x q n1)).ps) x.co := by
    rw [hy, coreL_app, coreL_cons_in _ (show hasP { q with base := n1, swd := false } from o.has) rfl]
    exact apP_mid hco ⟨room.2.1, room.2.2⟩ hroom
  have h2 : apP (swpL (inY x i q n1 M (keptB x q n1)).ps) x.sw := by
    rw [hy, swpL_app, swpL_cons_out _ rfl]
    exact (apP_out hsw).1
  rw [rightB_yes hr]
  show (apB (coreL (inY x i q n1 M (keptB x q n1)).ps) x.co && apB (swpL (inY x i q n1 M (keptB x q n1)).ps) x.sw) = true
  rw [apB_iff.2 h1, apB_iff.2 h2]
  rfl
theorem in_far (h : Nice x) (o : InOk x k i q n1 M Z c) {r : Pr} (hr : r ∈ x.ps) (h1 : hasP r) (h2 : r.swd = false) : bytesL M (r.base.toNat * 64) (r.blk.toNat * 64) = bytesL x.mem (r.base.toNat * 64) (r.blk.toNat * 64) := by
  obtain ⟨room, b0, b1, b2, b3⟩ := in_room h o
  obtain ⟨c1, c2, c3, c4, c5, c6⟩ := core_in h.fine hr h1 h2
  have hm : (r.base, r.blk) ∈ coreL x.ps := List.mem_map.2 ⟨r, List.mem_filter.2 ⟨hr, by simp [h1, h2]⟩, rfl⟩
  have hn := room.1 _ hm
  have hl := inT_len' x q
  unfold meetP at hn
  dsimp only at hn
  rw [o.hM]
  exact bytes_far h.fine.words (by omega) (by
    by_cases hc : r.base + r.blk ≤ n1
    · exact .inl (by omega)
    · by_cases hd : n1 + q.blk ≤ r.base
      · exact .inr (by omega)
      · exact absurd ⟨by omega, by omega, by omega, by omega⟩ hn)
theorem in_near (h : Nice x) (o : InOk x k i q n1 M Z c) {t : List UInt8} (ht : inT x q = t) (hl : t.length = q.blk.toNat * 64) : bytesL M (n1.toNat * 64) (q.blk.toNat * 64) = t := by
  obtain ⟨room, b0, b1, b2, b3⟩ := in_room h o
  rw [o.hM, ht, ← hl]
  exact bytes_back h.fine.words (by omega)
end
end Go.Abs

namespace Go.Abs
open Go.Proofs
set_option maxRecDepth 100000
set_option linter.unusedSimpArgs false
set_option linter.unusedVariables false

/-- Types whose values are compared by '==' cell by cell. -/
def cmpT (P : Program) : Nat → TypeId → Bool
  | 0, _ => false
  | n + 1, t => match P.underlying t with
    | some .bool | some (.int _) | some .string => true
    | some (.struct fs) => !P.stoodInHeld t && ((fs.toList.all fun f => okT P f.type && decide (sizeL P f.type = P.cellsOf f.type) && decide (f.offset + sizeL P f.type ≤ P.cellsOf t) && cmpT P n f.type) && (List.range (P.cellsOf t)).all fun j => fs.toList.any fun f => decide (f.offset ≤ j) && decide (j < f.offset + P.cellsOf f.type))
    | some (.array m e) => okT P e && decide (sizeL P e = P.cellsOf e) && decide (P.cellsOf t = m * P.cellsOf e) && cmpT P n e
    | _ => false

theorem cmp_val {P : Program} : ∀ (k n : Nat) (t : TypeId) (xs : List V), cmpT P k t = true → HasT P n t xs → ∀ x ∈ xs, ∃ v, toVal x = some v
  | 0, _, _, _, h, _ => by cases h
  | k + 1, 0, _, _, _, h => h.elim
  | k + 1, n + 1, t, xs, hk, h => by
    intro x hx
    simp only [cmpT] at hk
    simp only [HasT] at h
    cases hu : P.underlying t with
    | none => rw [hu] at hk; cases hk
    | some d =>
      rw [hu] at hk h
      cases d
      case bool => obtain ⟨b, rfl⟩ := h; rw [List.mem_singleton.1 hx]; exact ⟨_, rfl⟩
      case int kk => obtain ⟨m, rfl, _⟩ := h; rw [List.mem_singleton.1 hx]; exact ⟨_, rfl⟩
      case string => obtain ⟨s, rfl, _⟩ := h; rw [List.mem_singleton.1 hx]; exact ⟨_, rfl⟩
      case struct fs =>
        simp only [Bool.and_eq_true, List.all_eq_true, List.mem_range, List.any_eq_true, decide_eq_true_eq] at hk
        obtain ⟨j, hj, rfl⟩ := List.mem_iff_getElem.1 hx
        obtain ⟨f, hf, h1, h2⟩ := hk.2.2 j (by rw [← h.1]; exact hj)
        exact cmp_val k n f.type _ (hk.2.1 f hf).2 (h.2 f hf) _ (mem_part hj h1 h2)
      case array m e =>
        simp only [Bool.and_eq_true, decide_eq_true_eq] at hk
        obtain ⟨j, hj, rfl⟩ := List.mem_iff_getElem.1 hx
        have hj' : j < m * P.cellsOf e := by have := h.1; omega
        have hc : 0 < P.cellsOf e := by
          rcases Nat.eq_zero_or_pos (P.cellsOf e) with h0 | h0
          · rw [h0] at hj'; omega
          · exact h0
        have h1 : j / P.cellsOf e < m := (Nat.div_lt_iff_lt_mul hc).2 hj'
        have h2 := Nat.div_add_mod j (P.cellsOf e)
        have h3 := Nat.mod_lt j hc
        rw [Nat.mul_comm] at h2
        exact cmp_val k n e _ hk.2 (h.2 _ h1) _ (mem_part hj (by omega) (by omega))
      all_goals (simp only at hk; cases hk)

theorem eqFs_true {g : Field → Option Bool} : ∀ (l : List Field), (∀ f ∈ l, g f = some true) → eqFs g l = some true
  | [], _ => rfl
  | f :: l, h => by
    rw [eqFs, h f (by simp), eqFs_true l fun f hf => h f (by simp [hf])]
    simp
theorem eqNs_true {g : Nat → Option Bool} : ∀ (l : List Nat), (∀ f ∈ l, g f = some true) → eqNs g l = some true
  | [], _ => rfl
  | f :: l, h => by
    rw [eqNs, h f (by simp), eqNs_true l fun f hf => h f (by simp [hf])]
    simp

theorem eqL_refl {P : Program} : ∀ (k D n : Nat) (t : TypeId) (xs : List V), k ≤ D → cmpT P k t = true → HasT P n t xs → eqL P D t xs xs = some true
  | 0, _, _, _, _, _, h, _ => by cases h
  | k + 1, 0, _, _, _, h, _, _ => by omega
  | k + 1, D + 1, 0, _, _, _, _, h => h.elim
  | k + 1, D + 1, n + 1, t, xs, hD, hk, h => by
    simp only [cmpT] at hk
    simp only [HasT] at h
    simp only [eqL]
    cases hu : P.underlying t with
    | none => rw [hu] at hk; cases hk
    | some d =>
      rw [hu] at hk h
      cases d
      case bool => obtain ⟨b, rfl⟩ := h; simp
      case int kk => obtain ⟨m, rfl, _⟩ := h; simp
      case string => obtain ⟨s, rfl, _⟩ := h; simp
      case struct fs =>
        simp only [Bool.and_eq_true, List.all_eq_true, decide_eq_true_eq] at hk
        obtain ⟨h0, h1, _⟩ := hk
        simp only
        rw [if_neg (by simpa using h0)]
        refine eqFs_true _ fun f hf => ?_
        obtain ⟨⟨⟨a1, a2⟩, a3⟩, a4⟩ := h1 f hf
        rw [if_pos ⟨a1, by rw [h.1]; exact a3, trivial⟩, a2]
        exact eqL_refl k D n f.type _ (by omega) a4 (h.2 f hf)
      case array m e =>
        simp only [Bool.and_eq_true, decide_eq_true_eq] at hk
        obtain ⟨⟨⟨a1, a2⟩, a3⟩, a4⟩ := hk
        simp only
        rw [if_pos a1]
        refine eqNs_true _ fun i hi => ?_
        have hi' := List.mem_range.1 hi
        rw [if_pos ⟨by rw [a2, h.1, a3]; have := Nat.mul_le_mul_right (P.cellsOf e) (show i + 1 ≤ m from hi'); rw [Nat.add_mul, Nat.one_mul] at this; exact this, trivial⟩, a2]
        exact eqL_refl k D n e _ (by omega) a4 (h.2 i hi')
      all_goals (simp only at hk; cases hk)

theorem toVals_all : ∀ {xs : List V}, (∀ x ∈ xs, ∃ v, toVal x = some v) → ∃ cx, toVals xs = some cx
  | [], _ => ⟨[], rfl⟩
  | x :: xs, h => by
    obtain ⟨v, hv⟩ := h x (by simp)
    obtain ⟨vs, hvs⟩ := toVals_all (xs := xs) fun y hy => h y (by simp [hy])
    exact ⟨v :: vs, by rw [toVals, hv, hvs]⟩

/-- Two equal values are equal. -/
theorem same_agg {P : Program} {k n : Nat} {t : TypeId} {xs : List V} (hk : k ≤ 10000) (hc : cmpT P k t = true) (hag : aggT P t = some true) (hg : P.eqGuardType P.depth t = false) (h : HasT P n t xs) :
    binV P .eql t (.agg xs) (.agg xs) = some (.bool true) ∧ binV P .neq t (.agg xs) (.agg xs) = some (.bool false) := by
  obtain ⟨cx, hcx⟩ := toVals_all (cmp_val k n t xs hc h)
  have := binV_agg (d := 10000) rfl hag hg hcx hcx (eqL_refl k 10000 n t xs hk hc h)
  simpa using this
end Go.Abs

namespace Go.Abs
open Go.Proofs
set_option maxRecDepth 100000
set_option linter.unusedSimpArgs false
set_option linter.unusedVariables false

theorem sys_of2 {x : V} (h : ArgT Try.prog 66 x) : ∃ s : Sys, x = .agg s.cells ∧ s.Wf ∧ ∀ p ∈ s.ps, ∃ n, HasT Try.prog n 56 p.cells := by
  obtain ⟨s, rfl, hw⟩ := sys_of h
  refine ⟨s, rfl, hw, fun p hp => ?_⟩
  obtain ⟨n, h1, _⟩ := h
  have h1' : HasT Try.prog n 66 s.cells := h1
  obtain ⟨m, rfl, _, h4⟩ := hasT_struct Try.underlying66 h1'
  have fP := h4 1 _ rfl
  obtain ⟨m4, _, _, hA⟩ := hasT_array Try.underlying57 fP
  obtain ⟨j, hj, rfl⟩ := List.mem_iff_getElem.1 hp
  have hps := s.hps
  have := hA j (by omega)
  have e1 : (s.cells.drop 110).take 232 = prsC s.ps := by
    rw [s.at110, List.drop_left' s.p110_len, List.take_left' (s.prs_len)]
  obtain ⟨q1, q2⟩ := prsC_at (List.getElem?_eq_getElem hj)
  have e2 : ((prsC s.ps).drop (j * 29)).take 29 = s.ps[j].cells := by
    rw [q1, List.drop_left' q2, List.take_left' s.ps[j].cells_len]
  have h5 : HasT Try.prog m4 56 ((((s.cells.drop 110).take 232).drop (j * 29)).take 29) := this
  rw [e1, e2] at h5
  exact ⟨m4, h5⟩
end Go.Abs

namespace Go.Abs
open Go.Proofs
set_option maxRecDepth 100000
set_option linter.unusedSimpArgs false
set_option linter.unusedVariables false

theorem drvRight_eq (S : List (List UInt8)) (B : List Int) (hB : B.length ≤ maxLen) : bodyW DC 28 [drv S B] [] = some (.bool (decide (RightP S B)), []) := by
  unfold maxLen at hB
  (refine gives_iff ?_; refine go_func Try.f28 rfl rfl (by simp [Try.f28]) ?_; dsimp only [codeL, Try.f28, scL, sopsL, guardL, dstAt, loopKey])
  by_cases h1 : 1 ≤ S.length
  case neg =>
    have e1 : ((S.length : Int) < 1) := by omega
    (repeat (first
    | (apply is_ok; (case hw => simp [e1]); (case he => simp [e1]; exact is_rfl))
    | (apply op_no; (case hw => simp [e1]))
    | refine op_nil ?_ | refine next_normal ?_ | refine go_seq ?_ | refine go_region ?_ | refine go_skip ?_ | refine go_block ?_ | refine inb_normal ?_
    | (apply go_yes; (case hc => simp [e1])) | (apply go_no; (case hc => simp [e1]))
    | refine go_exit ?_ | refine next_exit ?_ | refine inb_here ?_ | refine inb_past (by decide) ?_ | refine go_ret ?_ | refine next_ret ?_ | refine inb_ret ?_))
    (apply ends_ok; (case h1 => simp; exact is_rfl); (case h2 => simp; exact is_rfl))
    have : ¬ RightP S B := fun h => h1 h.1
    simp [this]
  have e1 : ¬ ((S.length : Int) < 1) := by omega
  by_cases h2 : S.length ≤ 256
  case neg =>
    have e2 : ((256 : Int) < S.length) := by omega
    (repeat (first
    | (apply is_ok; (case hw => simp [e1, e2]); (case he => simp [e1, e2]; exact is_rfl))
    | (apply op_no; (case hw => simp [e1, e2]))
    | refine op_nil ?_ | refine next_normal ?_ | refine go_seq ?_ | refine go_region ?_ | refine go_skip ?_ | refine go_block ?_ | refine inb_normal ?_
    | (apply go_yes; (case hc => simp [e1, e2])) | (apply go_no; (case hc => simp [e1, e2]))
    | refine go_exit ?_ | refine next_exit ?_ | refine inb_here ?_ | refine inb_past (by decide) ?_ | refine go_ret ?_ | refine next_ret ?_ | refine inb_ret ?_))
    (apply ends_ok; (case h1 => simp; exact is_rfl); (case h2 => simp; exact is_rfl))
    have : ¬ RightP S B := fun h => h2 h.2.1
    simp [this]
  have e2 : ¬ ((256 : Int) < S.length) := by omega
  (repeat (first
    | (apply is_ok; (case hw => simp [e1, e2]); (case he => simp [e1, e2]; exact is_rfl))
    | (apply op_no; (case hw => simp [e1, e2]))
    | refine op_nil ?_ | refine next_normal ?_ | refine go_seq ?_ | refine go_region ?_ | refine go_skip ?_ | refine go_block ?_ | refine inb_normal ?_
    | (apply go_yes; (case hc => simp [e1, e2])) | (apply go_no; (case hc => simp [e1, e2]))
    | refine go_exit ?_ | refine next_exit ?_ | refine inb_here ?_ | refine inb_past (by decide) ?_ | refine go_ret ?_ | refine next_ret ?_ | refine inb_ret ?_))
  refine go_count S.length (fun i => [(1, .ptr 0 1 0 0), (19, .sl (strs S)), (20, .int .i64 S.length), (21, .int .i64 i)]) (fun _ => [.box (drv S B)]) (fun i => ∀ j (hj : j < S.length), j < i → S[j].length = 128) (by simp) (by simp) fun i hi hI => ?_
  have hw : IntKind.i64.wrap ((i : Int) + 1) = (i : Int) + 1 := wrap_id (by omega) (by omega)
  by_cases hlt : i < S.length
  · by_cases h3 : S[i].length = 128
    · have e3 : ((S[i].length : Int) = 128) := by omega
      (repeat (first
    | (apply is_ok; (case hw => simp [hlt, h3, e3]); (case he => simp [hlt, h3, e3]; exact is_rfl))
    | (apply op_no; (case hw => simp [hlt, h3, e3]))
    | refine op_nil ?_ | refine next_normal ?_ | refine go_seq ?_ | refine go_region ?_ | refine go_skip ?_ | refine go_block ?_ | refine inb_normal ?_
    | (apply go_yes; (case hc => simp [hlt, h3, e3])) | (apply go_no; (case hc => simp [hlt, h3, e3]))
    | refine go_exit ?_ | refine next_exit ?_ | refine inb_here ?_ | refine inb_past (by decide) ?_ | refine go_ret ?_ | refine next_ret ?_ | refine inb_ret ?_))
      exact ⟨hlt, by simp [hw], fun j hj hji => by
        by_cases hje : j = i
        · subst hje; exact h3
        · exact hI j hj (by omega)⟩
    · have e3 : ¬ ((S[i].length : Int) = 128) := by omega
      (repeat (first
    | (apply is_ok; (case hw => simp [hlt, h3, e3]); (case he => simp [hlt, h3, e3]; exact is_rfl))
    | (apply op_no; (case hw => simp [hlt, h3, e3]))
    | refine op_nil ?_ | refine next_normal ?_ | refine go_seq ?_ | refine go_region ?_ | refine go_skip ?_ | refine go_block ?_ | refine inb_normal ?_
    | (apply go_yes; (case hc => simp [hlt, h3, e3])) | (apply go_no; (case hc => simp [hlt, h3, e3]))
    | refine go_exit ?_ | refine next_exit ?_ | refine inb_here ?_ | refine inb_past (by decide) ?_ | refine go_ret ?_ | refine next_ret ?_ | refine inb_ret ?_))
      (apply ends_ok; (case h1 => simp; exact is_rfl); (case h2 => simp; exact is_rfl))
      have : ¬ RightP S B := fun h => h3 (h.2.2.1 _ (List.getElem_mem hlt))
      simp [this]
  clear hw
  (repeat (first
    | (apply is_ok; (case hw => simp [hlt]); (case he => simp [hlt]; exact is_rfl))
    | (apply op_no; (case hw => simp [hlt]))
    | refine op_nil ?_ | refine next_normal ?_ | refine go_seq ?_ | refine go_region ?_ | refine go_skip ?_ | refine go_block ?_ | refine inb_normal ?_
    | (apply go_yes; (case hc => simp [hlt])) | (apply go_no; (case hc => simp [hlt]))
    | refine go_exit ?_ | refine next_exit ?_ | refine inb_here ?_ | refine inb_past (by decide) ?_ | refine go_ret ?_ | refine next_ret ?_ | refine inb_ret ?_))
  have hS : ∀ s ∈ S, s.length = 128 := fun s hs => by
    obtain ⟨j, hj, rfl⟩ := List.getElem_of_mem hs
    exact hI j hj (by omega)
  clear hlt hI hi
  refine go_count B.length (fun k => [(1, .ptr 0 1 0 0), (5, .int .i64 (if k = 0 then -1 else B.getD (k - 1) 0)), (30, .sl (ints B)), (31, .int .i64 B.length), (32, .int .i64 k)]) (fun _ => [.box (drv S B)])
    (fun k => ∀ j (hj : j < B.length), j < k → 0 ≤ B[j] ∧ B[j] < S.length ∧ (1 ≤ j → B.getD (j - 1) 0 < B[j])) (by simp) (by simp) fun k hk hI => ?_
  by_cases hlt : k < B.length
  · have hw : IntKind.i64.wrap ((k : Int) + 1) = (k : Int) + 1 := wrap_id (by omega) (by omega)
    have hl : (if k = 0 then (-1 : Int) else B.getD (k - 1) 0) ≥ -1 := by
      split
      · omega
      · have hlt' : k - 1 < B.length := by omega
        have := (hI (k - 1) hlt' (by omega)).1
        simp [hlt']; omega
    generalize hL : (if k = 0 then (-1 : Int) else B.getD (k - 1) 0) = L at hl
    by_cases h3 : B[k] ≤ L
    case pos =>
      (repeat (first
    | (apply is_ok; (case hw => simp [hlt, h3]); (case he => simp [hlt, h3]; exact is_rfl))
    | (apply op_no; (case hw => simp [hlt, h3]))
    | refine op_nil ?_ | refine next_normal ?_ | refine go_seq ?_ | refine go_region ?_ | refine go_skip ?_ | refine go_block ?_ | refine inb_normal ?_
    | (apply go_yes; (case hc => simp [hlt, h3])) | (apply go_no; (case hc => simp [hlt, h3]))
    | refine go_exit ?_ | refine next_exit ?_ | refine inb_here ?_ | refine inb_past (by decide) ?_ | refine go_ret ?_ | refine next_ret ?_ | refine inb_ret ?_))
      (apply ends_ok; (case h1 => simp; exact is_rfl); (case h2 => simp; exact is_rfl))
      have : ¬ RightP S B := fun h => by
        have h0 := (h.2.2.2.1 _ (List.getElem_mem hlt)).1
        by_cases hk0 : k = 0
        · rw [if_pos hk0] at hL; omega
        · rw [if_neg hk0] at hL
          have := h.2.2.2.2 k (List.mem_range.2 hlt) (by omega)
          have e : B.getD k 0 = B[k] := by simp [hlt]
          omega
      simp [this]
    by_cases h4 : B[k] < S.length
    case neg =>
      have e4 : (S.length : Int) ≤ B[k] := by omega
      (repeat (first
    | (apply is_ok; (case hw => simp [hlt, h3, h4, e4]); (case he => simp [hlt, h3, h4, e4]; exact is_rfl))
    | (apply op_no; (case hw => simp [hlt, h3, h4, e4]))
    | refine op_nil ?_ | refine next_normal ?_ | refine go_seq ?_ | refine go_region ?_ | refine go_skip ?_ | refine go_block ?_ | refine inb_normal ?_
    | (apply go_yes; (case hc => simp [hlt, h3, h4, e4])) | (apply go_no; (case hc => simp [hlt, h3, h4, e4]))
    | refine go_exit ?_ | refine next_exit ?_ | refine inb_here ?_ | refine inb_past (by decide) ?_ | refine go_ret ?_ | refine next_ret ?_ | refine inb_ret ?_))
      (apply ends_ok; (case h1 => simp; exact is_rfl); (case h2 => simp; exact is_rfl))
      have : ¬ RightP S B := fun h => h4 (h.2.2.2.1 _ (List.getElem_mem hlt)).2
      simp [this]
    have e4 : ¬ ((S.length : Int) ≤ B[k]) := by omega
    (repeat (first
    | (apply is_ok; (case hw => simp [hlt, h3, h4, e4]); (case he => simp [hlt, h3, h4, e4]; exact is_rfl))
    | (apply op_no; (case hw => simp [hlt, h3, h4, e4]))
    | refine op_nil ?_ | refine next_normal ?_ | refine go_seq ?_ | refine go_region ?_ | refine go_skip ?_ | refine go_block ?_ | refine inb_normal ?_
    | (apply go_yes; (case hc => simp [hlt, h3, h4, e4])) | (apply go_no; (case hc => simp [hlt, h3, h4, e4]))
    | refine go_exit ?_ | refine next_exit ?_ | refine inb_here ?_ | refine inb_past (by decide) ?_ | refine go_ret ?_ | refine next_ret ?_ | refine inb_ret ?_))
    exact ⟨hlt, by simp [hw, hlt], fun j hj hji => by
      by_cases hje : j = k
      · subst hje
        refine ⟨by omega, h4, fun h => ?_⟩
        rw [if_neg (by omega)] at hL
        omega
      · exact hI j hj (by omega)⟩
  · (repeat (first
    | (apply is_ok; (case hw => simp [hlt]); (case he => simp [hlt]; exact is_rfl))
    | (apply op_no; (case hw => simp [hlt]))
    | refine op_nil ?_ | refine next_normal ?_ | refine go_seq ?_ | refine go_region ?_ | refine go_skip ?_ | refine go_block ?_ | refine inb_normal ?_
    | (apply go_yes; (case hc => simp [hlt])) | (apply go_no; (case hc => simp [hlt]))
    | refine go_exit ?_ | refine next_exit ?_ | refine inb_here ?_ | refine inb_past (by decide) ?_ | refine go_ret ?_ | refine next_ret ?_ | refine inb_ret ?_))
    (apply ends_ok; (case h1 => simp; exact is_rfl); (case h2 => simp; exact is_rfl))
    have : RightP S B := ⟨h1, h2, hS, fun b hb => by
      obtain ⟨j, hj, rfl⟩ := List.getElem_of_mem hb
      exact ⟨(hI j hj (by omega)).1, (hI j hj (by omega)).2.1⟩, fun j hj h => by
      have hj' := List.mem_range.1 hj
      have := (hI j hj' (by omega)).2.2 h
      simpa [hj'] using this⟩
    simp [this]


theorem lawImage_eq (s : Sys) (hm : s.mem.length ≤ 1000000) (j : Nat) (p : Pr) (hp : s.ps[j]? = some p) (hb : 0 ≤ p.base) (hk : 0 ≤ p.blk) (h : (p.base + p.blk) * 32 ≤ s.mem.length) : bodyW DC 29 [.agg s.cells, .int .i64 j] [] = some (.str (bytesL s.mem (p.base.toNat * 64) (p.blk.toNat * 64)), []) := by
  have hps := s.hps
  have hj := (List.getElem?_eq_some_iff.1 hp).1
  have g1 : j < 8 := by omega
  obtain ⟨ba, hba⟩ := Int.eq_ofNat_of_zero_le hb
  obtain ⟨bl, hbl⟩ := Int.eq_ofNat_of_zero_le hk
  have v := mBytes_eq s.mem hm (ba * 64) (bl * 64) (by omega)
  rw [hba, hbl]
  simp only [Int.toNat_natCast]
  generalize bytesL s.mem (ba * 64) (bl * 64) = t at v ⊢
  have w1 : IntKind.i64.wrap (64 * (ba : Int)) = (ba : Int) * 64 := by rw [wrap_id (by omega) (by omega)]; omega
  have w2 : IntKind.i64.wrap (64 * (bl : Int)) = (bl : Int) * 64 := by rw [wrap_id (by omega) (by omega)]; omega
  push_cast at v
  rw [s.cells_cw]
  (refine gives_iff ?_; refine go_func Try.f29 rfl rfl (by simp [Try.f29]) ?_; dsimp only [codeL, Try.f29, scL, sopsL, guardL, dstAt, loopKey])
  (repeat (first
    | (apply is_ok; (case hw => simp [g1, hp, hba, hbl, w1, w2, v]); (case he => simp [g1, hp, hba, hbl, w1, w2, v]; exact is_rfl))
    | (apply op_no; (case hw => simp [g1, hp, hba, hbl, w1, w2, v]))
    | refine op_nil ?_ | refine next_normal ?_ | refine go_seq ?_ | refine go_region ?_ | refine go_skip ?_ | refine go_block ?_ | refine inb_normal ?_
    | (apply go_yes; (case hc => simp [g1, hp, hba, hbl, w1, w2, v])) | (apply go_no; (case hc => simp [g1, hp, hba, hbl, w1, w2, v]))
    | refine go_exit ?_ | refine next_exit ?_ | refine inb_here ?_ | refine inb_past (by decide) ?_ | refine go_ret ?_ | refine next_ret ?_ | refine inb_ret ?_))
  (apply ends_ok; (case h1 => simp; exact is_rfl); (case h2 => simp; exact is_rfl))
  simp

set_option maxHeartbeats 8000000 in
theorem SwapReturns_eq (s : Sys) (hs : s.Wf) (hT : ∀ p ∈ s.ps, ∃ n, HasT Try.prog n 56 p.cells) (k : Int) : bodyW DC 7 [.agg s.cells, .int .i64 k] [] = some (.bool true, []) := by
  have v0 := few_eq s hs
  cases hf : fewB s with
  | false =>
    rw [hf] at v0
    (refine gives_iff ?_; refine go_func Try.f7 rfl rfl (by simp [Try.f7]) ?_; dsimp only [codeL, Try.f7, scL, sopsL, guardL, dstAt, loopKey])
    (repeat (first
    | (apply is_ok; (case hw => simp [v0]); (case he => simp [v0]; exact is_rfl))
    | (apply op_no; (case hw => simp [v0]))
    | refine op_nil ?_ | refine next_normal ?_ | refine go_seq ?_ | refine go_region ?_ | refine go_skip ?_ | refine go_block ?_ | refine inb_normal ?_
    | (apply go_yes; (case hc => simp [v0])) | (apply go_no; (case hc => simp [v0]))
    | refine go_exit ?_ | refine next_exit ?_ | refine inb_here ?_ | refine inb_past (by decide) ?_ | refine go_ret ?_ | refine next_ret ?_ | refine inb_ret ?_))
    (apply ends_ok; (case h1 => simp; exact is_rfl); (case h2 => simp; exact is_rfl))
    simp
  | true =>
  rw [hf] at v0
  have hf2 := hf
  unfold fewB at hf2
  simp only [Bool.and_eq_true, decide_eq_true_eq] at hf2
  have v1 := swRightR_eq s (by omega) (by omega) fun q hq => (hs.ps q hq).2.2
  cases hr : rightB s with
  | false =>
    rw [hr] at v1
    (refine gives_iff ?_; refine go_func Try.f7 rfl rfl (by simp [Try.f7]) ?_; dsimp only [codeL, Try.f7, scL, sopsL, guardL, dstAt, loopKey])
    (repeat (first
    | (apply is_ok; (case hw => simp [v0, v1]); (case he => simp [v0, v1]; exact is_rfl))
    | (apply op_no; (case hw => simp [v0, v1]))
    | refine op_nil ?_ | refine next_normal ?_ | refine go_seq ?_ | refine go_region ?_ | refine go_skip ?_ | refine go_block ?_ | refine inb_normal ?_
    | (apply go_yes; (case hc => simp [v0, v1])) | (apply go_no; (case hc => simp [v0, v1]))
    | refine go_exit ?_ | refine next_exit ?_ | refine inb_here ?_ | refine inb_past (by decide) ?_ | refine go_ret ?_ | refine next_ret ?_ | refine inb_ret ?_))
    (apply ends_ok; (case h1 => simp; exact is_rfl); (case h2 => simp; exact is_rfl))
    simp
  | true =>
  rw [hr] at v1
  have hn := nice_of hs hf hr
  have va := alive45_eq
  rcases Out_cases s hn k with ⟨e, he, v2⟩ | ⟨i, p, n0, T, ho⟩
  · rw [s.cells_cw] at v0 v1 v2 ⊢
    (refine gives_iff ?_; refine go_func Try.f7 rfl rfl (by simp [Try.f7]) ?_; dsimp only [codeL, Try.f7, scL, sopsL, guardL, dstAt, loopKey])
    (repeat (first
    | (apply is_ok; (case hw => simp [v0, v1, v2, he, va]); (case he => simp [v0, v1, v2, he, va]; exact is_rfl))
    | (apply op_no; (case hw => simp [v0, v1, v2, he, va]))
    | refine op_nil ?_ | refine next_normal ?_ | refine go_seq ?_ | refine go_region ?_ | refine go_skip ?_ | refine go_block ?_ | refine inb_normal ?_
    | (apply go_yes; (case hc => simp [v0, v1, v2, he, va])) | (apply go_no; (case hc => simp [v0, v1, v2, he, va]))
    | refine go_exit ?_ | refine next_exit ?_ | refine inb_here ?_ | refine inb_past (by decide) ?_ | refine go_ret ?_ | refine next_ret ?_ | refine inb_ret ?_))
    (apply ends_ok; (case h1 => simp; exact is_rfl); (case h2 => simp; exact is_rfl))
    simp
  have hnx := nice_out hn ho
  obtain ⟨n1, M, Z, c, hi, hinT⟩ := out_back hn ho
  have hry := in_right hnx hi
  obtain ⟨hML, hMP⟩ := in_mem hnx hi
  have hps := s.hps
  have hil := (List.getElem?_eq_some_iff.1 ho.hp).1
  have hpm := List.mem_of_getElem? ho.hp
  obtain ⟨c1, c2, c3, c4, c5, c6⟩ := core_in hn.fine hpm ho.has ho.swd
  obtain ⟨room, b0, b1, b2, b3⟩ := in_room hnx hi
  have hnear := in_near hnx hi hinT (by simp)
  obtain ⟨q, hq⟩ : ∃ q : Pr, q = { p with base := n0, swd := true } := ⟨_, rfl⟩
  obtain ⟨X, hX⟩ : ∃ X, X = outX s i p n0 T := ⟨_, rfl⟩
  obtain ⟨r, hrr⟩ : ∃ r : Pr, r = { p with base := n1, swd := false } := ⟨_, rfl⟩
  obtain ⟨K, hK⟩ : ∃ K, K = keptB X q n1 := ⟨_, rfl⟩
  obtain ⟨Y, hY⟩ : ∃ Y, Y = inY X i q n1 M K := ⟨_, rfl⟩
  have hTl : T.length = s.S.length := by rw [ho.hT]; exact puts_length _ _
  have v2 : bodyW DC 23 [.agg s.cells, .int .i64 k] [] = some (.tuple [.agg (X.cw (.sl (ints s.mem)) (.sl (ints s.bad)) (.own 0 s.S.length 0 s.S.length) (.own 1 s.B.length 0 s.B.length)), .int .i64 0], [.dat true 1 (strs T), .dat true 1 (ints s.B)]) := by rw [hX]; exact ho.run
  have v3 : bodyW DC 24 [.agg (X.cw (.sl (ints s.mem)) (.sl (ints s.bad)) (.sl (strs T)) (.sl (ints s.B))), .int .i64 k] [] = some (.tuple [.agg (Y.cw (.own 0 s.mem.length 0 s.mem.length) (.own 1 s.bad.length 0 c) (.sl (strs T)) (.sl (ints s.B))), .int .i64 0], [.dat true 1 (ints M), .dat true 1 (ints Z)]) := by rw [hY, hK, hX, hq]; exact hi.run
  have v4 : bodyW DC 20 [.agg (X.cw (.sl (ints s.mem)) (.sl (ints s.bad)) (.sl (strs T)) (.sl (ints s.B)))] [] = some (.bool true, []) := by
    have := swRight_eq X (by rw [hX]; have := hnx.fine.mem; omega) (by rw [hX]; have := hnx.fine.S; omega) (by rw [hX]; exact fun q hq => (hnx.wf.ps q hq).2.2)
    rw [show rightB X = true by rw [hX]; exact nice_right hnx] at this
    rw [hX] at this ⊢
    exact this
  have hKl : K.length ≤ s.bad.length := by rw [hK, hX]; exact List.length_filter_le _ _
  have v5 : bodyW DC 20 [.agg (Y.cw (.sl (ints M)) (.sl (ints K)) (.sl (strs T)) (.sl (ints s.B)))] [] = some (.bool true, []) := by
    have := swRight_eq Y (by rw [hY]; show M.length ≤ _; rw [hML]; have := hnx.fine.mem; omega) (by rw [hY, hX]; have := hnx.fine.S; exact Nat.le_trans this (by decide)) (by
      rw [hY, hX]
      intro z hz
      rcases List.mem_or_eq_of_mem_set hz with h | rfl
      · exact (hnx.wf.ps z h).2.2
      · rw [hq]; exact (hs.ps p hpm).2.2)
    rw [show rightB Y = true by rw [hY, hK, hX, hq]; exact hry] at this
    rw [hY, hX] at this ⊢
    exact this
  have v6 := memRight_ok M K (by have := hn.badl; omega) (by rw [hK, hX, hq]; exact hMP)
  have v7 := drvRight_eq T s.B hs.B
  rw [decide_eq_true (show RightP T s.B from hnx.drv)] at v7
  have hYi : Y.ps[i]? = some r := by rw [hY, hX, hrr, hq]; exact List.getElem?_set_self (by simp [outX, hil])
  have hYj : ∀ j : Nat, j ≠ i → Y.ps[j]? = s.ps[j]? := fun j hj => by
    rw [hY, hX]
    show ((s.ps.set i _).set i _)[j]? = _
    rw [List.getElem?_set_ne (by omega), List.getElem?_set_ne (by omega)]
  have hYm : Y.mem = M := by rw [hY]; rfl
  have v8 : bodyW DC 29 [.agg (Y.cw (.sl (ints M)) (.sl (ints K)) (.sl (strs T)) (.sl (ints s.B))), .int .i64 i] [] = some (.str (bytesL s.mem (p.base.toNat * 64) (p.blk.toNat * 64)), []) := by
    have := lawImage_eq Y (by rw [hYm, hML]; have := hnx.fine.mem; omega) i r hYi (by rw [hrr]; exact b0) (by rw [hrr]; show 0 ≤ p.blk; omega) (by rw [hrr, hYm, hML]; exact b1)
    rw [hYm, hrr] at this
    dsimp only at this
    rw [show bytesL M (n1.toNat * 64) (p.blk.toNat * 64) = bytesL s.mem (p.base.toNat * 64) (p.blk.toNat * 64) from hnear] at this
    rw [hY, hX] at this ⊢
    exact this
  have v9 := lawImage_eq s (by have := hn.fine.mem; omega) i p ho.hp c2 (by omega) c6
  have v10 : ∀ (j : Nat) (z : Pr), s.ps[j]? = some z → j ≠ i → hasP z → z.swd = false → bodyW DC 29 [.agg (Y.cw (.sl (ints M)) (.sl (ints K)) (.sl (strs T)) (.sl (ints s.B))), .int .i64 j] [] = some (.str (bytesL s.mem (z.base.toNat * 64) (z.blk.toNat * 64)), []) ∧ bodyW DC 29 [.agg s.cells, .int .i64 j] [] = some (.str (bytesL s.mem (z.base.toNat * 64) (z.blk.toNat * 64)), []) := fun j z hz hji hh hzs => by
    have hzm := List.mem_of_getElem? hz
    obtain ⟨d1, d2, d3, d4, d5, d6⟩ := core_in hn.fine hzm hh hzs
    have hzx : z ∈ (outX s i p n0 T).ps := by
      refine List.mem_of_getElem? (i := j) ?_
      show (s.ps.set i _)[j]? = _
      rw [List.getElem?_set_ne (by omega)]
      exact hz
    constructor
    · have := lawImage_eq Y (by rw [hYm, hML]; have := hnx.fine.mem; omega) j z (by rw [hYj j hji]; exact hz) d2 (by omega) (by rw [hYm, hML]; exact d6)
      rw [hYm, in_far hnx hi hzx hh hzs] at this
      rw [hY, hX] at this ⊢
      exact this
    · exact lawImage_eq s (by have := hn.fine.mem; omega) j z hz d2 (by omega) d6
  have hk := ho.hk
  subst hk
  have g0 : ¬ (i : Int) < 0 := by omega
  have g1 : ¬ (8 : Int) ≤ i := by omega
  have g4 : i < 8 := by omega
  have hZ : (if c = s.bad.length then ints Z else List.take c (ints Z)) = ints K := by
    have e1 : Z = K ++ List.replicate (s.bad.length - K.length) 0 := by rw [hK, hX, hq]; exact hi.hZ
    have e2 : c = K.length := by rw [hK, hX, hq]; exact hi.hc
    split
    · rename_i h
      rw [e1, show s.bad.length - K.length = 0 by omega]
      simp
    · rw [e1, e2]
      simp
  have hMl' : M.length = s.mem.length := hML
  have hZl : Z.length = s.bad.length := by
    have e1 : Z = K ++ List.replicate (s.bad.length - K.length) 0 := by rw [hK, hX, hq]; exact hi.hZ
    rw [e1]
    simp
    omega
  have hrb : r.blk = p.blk := by rw [hrr]
  have hrs : r.swd = false := by rw [hrr]
  have hro : ∀ m b B', hasRoL (Y.cw m b (.sl (strs T)) B') = true := fun m b B' => by
    rw [hasRoL_any, List.any_eq_true]
    refine ⟨.sl (strs T), by unfold Sys.cw; simp, ?_⟩
    have := hnx.drv.1
    have h1 : 1 ≤ T.length := this
    cases T with
    | nil => simp at h1
    | cons a l => rfl
  rw [s.cells_cw] at v0 v1 v2 v9 v10 ⊢
  have hp0 := ho.hp
  (refine gives_iff ?_; refine go_func Try.f7 rfl rfl (by simp [Try.f7]) ?_; dsimp only [codeL, Try.f7, scL, sopsL, guardL, dstAt, loopKey])
  (repeat (first
    | (apply is_ok; (case hw => simp [v0, v1, v2, v3, v4, v5, v6, v7, v8, v9, va, hro, g0, g1, g4, hTl, hZ, hMl', hZl, hYi, hp0, hrb, hrs]); (case he => simp [v0, v1, v2, v3, v4, v5, v6, v7, v8, v9, va, hro, g0, g1, g4, hTl, hZ, hMl', hZl, hYi, hp0, hrb, hrs]; exact is_rfl))
    | (apply op_no; (case hw => simp [v0, v1, v2, v3, v4, v5, v6, v7, v8, v9, va, hro, g0, g1, g4, hTl, hZ, hMl', hZl, hYi, hp0, hrb, hrs]))
    | refine op_nil ?_ | refine next_normal ?_ | refine go_seq ?_ | refine go_region ?_ | refine go_skip ?_ | refine go_block ?_ | refine inb_normal ?_
    | (apply go_yes; (case hc => simp [v0, v1, v2, v3, v4, v5, v6, v7, v8, v9, va, hro, g0, g1, g4, hTl, hZ, hMl', hZl, hYi, hp0, hrb, hrs])) | (apply go_no; (case hc => simp [v0, v1, v2, v3, v4, v5, v6, v7, v8, v9, va, hro, g0, g1, g4, hTl, hZ, hMl', hZl, hYi, hp0, hrb, hrs]))
    | refine go_exit ?_ | refine next_exit ?_ | refine inb_here ?_ | refine inb_past (by decide) ?_ | refine go_ret ?_ | refine next_ret ?_ | refine inb_ret ?_))
  refine go_count 8 (fun j => [(1, .int .i64 i), (2, .ptr 0 1 0 0), (7, .ptr 1 1 0 0), (9, .int .i64 j)])
    (fun j => [.box (.agg (s.cw (.sl (ints s.mem)) (.sl (ints s.bad)) (.sl (strs s.S)) (.sl (ints s.B)))), .box (.agg (Y.cw (.own 2 s.mem.length 0 s.mem.length) (.own 3 s.bad.length 0 c) (.sl (strs T)) (.sl (ints s.B)))), .dat true 1 (ints M), .dat true 1 (ints Z)]) (fun _ => True) (by simp) trivial fun j hj _ => ?_
  by_cases hlt : j < 8
  · have k1 : (j : Int) < 8 := by omega
    have k2 : IntKind.i64.wrap ((j : Int) + 1) = (j : Int) + 1 := wrap_id (by omega) (by omega)
    have k3 : s.ps[j]? = some s.ps[j] := List.getElem?_eq_getElem (by omega)
    by_cases hji : j = i
    · subst hji
      (repeat (first
    | (apply is_ok; (case hw => simp [k1, k2, k3, hlt]); (case he => simp [k1, k2, k3, hlt]; exact is_rfl))
    | (apply op_no; (case hw => simp [k1, k2, k3, hlt]))
    | refine op_nil ?_ | refine next_normal ?_ | refine go_seq ?_ | refine go_region ?_ | refine go_skip ?_ | refine go_block ?_ | refine inb_normal ?_
    | (apply go_yes; (case hc => simp [k1, k2, k3, hlt])) | (apply go_no; (case hc => simp [k1, k2, k3, hlt]))
    | refine go_exit ?_ | refine next_exit ?_ | refine inb_here ?_ | refine inb_past (by decide) ?_ | refine go_ret ?_ | refine next_ret ?_ | refine inb_ret ?_))
      exact ⟨hlt, by simp [k2], trivial⟩
    · have k4 : ¬ (j : Int) = i := by omega
      have k5 : Y.ps[j]? = some s.ps[j] := by rw [hYj j hji]; exact k3
      obtain ⟨n, hn2⟩ := hT _ (List.getElem_mem (by omega : j < s.ps.length))
      have k6 := (same_agg (k := 10) (by decide) (by kernel_rfl) (by kernel_rfl) (by kernel_rfl) hn2).2
      obtain ⟨z, hz⟩ : ∃ z, z = s.ps[j]'(by omega) := ⟨_, rfl⟩
      rw [← hz] at k3 k5 k6
      have v11 := v10 j z k3 hji
      by_cases d1 : z.st = 1 ∨ z.st = 2
      · by_cases d2 : 0 < z.blk
        · cases d3 : z.swd with
          | false =>
            obtain ⟨v12, v13⟩ := v11 ⟨d1, d2⟩ d3
            rcases d1 with d1 | d1
            · (repeat (first
    | (apply is_ok; (case hw => simp [-binV, k1, k2, k3, k4, k5, k6, hlt, d1, d2, d3, v12, v13, hZ, hMl', hZl]); (case he => simp [-binV, k1, k2, k3, k4, k5, k6, hlt, d1, d2, d3, v12, v13, hZ, hMl', hZl]; exact is_rfl))
    | (apply op_no; (case hw => simp [-binV, k1, k2, k3, k4, k5, k6, hlt, d1, d2, d3, v12, v13, hZ, hMl', hZl]))
    | refine op_nil ?_ | refine next_normal ?_ | refine go_seq ?_ | refine go_region ?_ | refine go_skip ?_ | refine go_block ?_ | refine inb_normal ?_
    | (apply go_yes; (case hc => simp [-binV, k1, k2, k3, k4, k5, k6, hlt, d1, d2, d3, v12, v13, hZ, hMl', hZl])) | (apply go_no; (case hc => simp [-binV, k1, k2, k3, k4, k5, k6, hlt, d1, d2, d3, v12, v13, hZ, hMl', hZl]))
    | refine go_exit ?_ | refine next_exit ?_ | refine inb_here ?_ | refine inb_past (by decide) ?_ | refine go_ret ?_ | refine next_ret ?_ | refine inb_ret ?_))
              exact ⟨hlt, by simp [k2], trivial⟩
            · (repeat (first
    | (apply is_ok; (case hw => simp [-binV, k1, k2, k3, k4, k5, k6, hlt, d1, d2, d3, v12, v13, hZ, hMl', hZl]); (case he => simp [-binV, k1, k2, k3, k4, k5, k6, hlt, d1, d2, d3, v12, v13, hZ, hMl', hZl]; exact is_rfl))
    | (apply op_no; (case hw => simp [-binV, k1, k2, k3, k4, k5, k6, hlt, d1, d2, d3, v12, v13, hZ, hMl', hZl]))
    | refine op_nil ?_ | refine next_normal ?_ | refine go_seq ?_ | refine go_region ?_ | refine go_skip ?_ | refine go_block ?_ | refine inb_normal ?_
    | (apply go_yes; (case hc => simp [-binV, k1, k2, k3, k4, k5, k6, hlt, d1, d2, d3, v12, v13, hZ, hMl', hZl])) | (apply go_no; (case hc => simp [-binV, k1, k2, k3, k4, k5, k6, hlt, d1, d2, d3, v12, v13, hZ, hMl', hZl]))
    | refine go_exit ?_ | refine next_exit ?_ | refine inb_here ?_ | refine inb_past (by decide) ?_ | refine go_ret ?_ | refine next_ret ?_ | refine inb_ret ?_))
              exact ⟨hlt, by simp [k2], trivial⟩
          | true =>
            rcases d1 with d1 | d1
            · (repeat (first
    | (apply is_ok; (case hw => simp [-binV, k1, k2, k3, k4, k5, k6, hlt, d1, d2, d3]); (case he => simp [-binV, k1, k2, k3, k4, k5, k6, hlt, d1, d2, d3]; exact is_rfl))
    | (apply op_no; (case hw => simp [-binV, k1, k2, k3, k4, k5, k6, hlt, d1, d2, d3]))
    | refine op_nil ?_ | refine next_normal ?_ | refine go_seq ?_ | refine go_region ?_ | refine go_skip ?_ | refine go_block ?_ | refine inb_normal ?_
    | (apply go_yes; (case hc => simp [-binV, k1, k2, k3, k4, k5, k6, hlt, d1, d2, d3])) | (apply go_no; (case hc => simp [-binV, k1, k2, k3, k4, k5, k6, hlt, d1, d2, d3]))
    | refine go_exit ?_ | refine next_exit ?_ | refine inb_here ?_ | refine inb_past (by decide) ?_ | refine go_ret ?_ | refine next_ret ?_ | refine inb_ret ?_))
              exact ⟨hlt, by simp [k2], trivial⟩
            · (repeat (first
    | (apply is_ok; (case hw => simp [-binV, k1, k2, k3, k4, k5, k6, hlt, d1, d2, d3]); (case he => simp [-binV, k1, k2, k3, k4, k5, k6, hlt, d1, d2, d3]; exact is_rfl))
    | (apply op_no; (case hw => simp [-binV, k1, k2, k3, k4, k5, k6, hlt, d1, d2, d3]))
    | refine op_nil ?_ | refine next_normal ?_ | refine go_seq ?_ | refine go_region ?_ | refine go_skip ?_ | refine go_block ?_ | refine inb_normal ?_
    | (apply go_yes; (case hc => simp [-binV, k1, k2, k3, k4, k5, k6, hlt, d1, d2, d3])) | (apply go_no; (case hc => simp [-binV, k1, k2, k3, k4, k5, k6, hlt, d1, d2, d3]))
    | refine go_exit ?_ | refine next_exit ?_ | refine inb_here ?_ | refine inb_past (by decide) ?_ | refine go_ret ?_ | refine next_ret ?_ | refine inb_ret ?_))
              exact ⟨hlt, by simp [k2], trivial⟩
        · rcases d1 with d1 | d1
          · (repeat (first
    | (apply is_ok; (case hw => simp [-binV, k1, k2, k3, k4, k5, k6, hlt, d1, d2]); (case he => simp [-binV, k1, k2, k3, k4, k5, k6, hlt, d1, d2]; exact is_rfl))
    | (apply op_no; (case hw => simp [-binV, k1, k2, k3, k4, k5, k6, hlt, d1, d2]))
    | refine op_nil ?_ | refine next_normal ?_ | refine go_seq ?_ | refine go_region ?_ | refine go_skip ?_ | refine go_block ?_ | refine inb_normal ?_
    | (apply go_yes; (case hc => simp [-binV, k1, k2, k3, k4, k5, k6, hlt, d1, d2])) | (apply go_no; (case hc => simp [-binV, k1, k2, k3, k4, k5, k6, hlt, d1, d2]))
    | refine go_exit ?_ | refine next_exit ?_ | refine inb_here ?_ | refine inb_past (by decide) ?_ | refine go_ret ?_ | refine next_ret ?_ | refine inb_ret ?_))
            exact ⟨hlt, by simp [k2], trivial⟩
          · (repeat (first
    | (apply is_ok; (case hw => simp [-binV, k1, k2, k3, k4, k5, k6, hlt, d1, d2]); (case he => simp [-binV, k1, k2, k3, k4, k5, k6, hlt, d1, d2]; exact is_rfl))
    | (apply op_no; (case hw => simp [-binV, k1, k2, k3, k4, k5, k6, hlt, d1, d2]))
    | refine op_nil ?_ | refine next_normal ?_ | refine go_seq ?_ | refine go_region ?_ | refine go_skip ?_ | refine go_block ?_ | refine inb_normal ?_
    | (apply go_yes; (case hc => simp [-binV, k1, k2, k3, k4, k5, k6, hlt, d1, d2])) | (apply go_no; (case hc => simp [-binV, k1, k2, k3, k4, k5, k6, hlt, d1, d2]))
    | refine go_exit ?_ | refine next_exit ?_ | refine inb_here ?_ | refine inb_past (by decide) ?_ | refine go_ret ?_ | refine next_ret ?_ | refine inb_ret ?_))
            exact ⟨hlt, by simp [k2], trivial⟩
      · have d4 : ¬ z.st = 1 := fun h => d1 (.inl h)
        have d5 : ¬ z.st = 2 := fun h => d1 (.inr h)
        (repeat (first
    | (apply is_ok; (case hw => simp [-binV, k1, k2, k3, k4, k5, k6, hlt, d4, d5]); (case he => simp [-binV, k1, k2, k3, k4, k5, k6, hlt, d4, d5]; exact is_rfl))
    | (apply op_no; (case hw => simp [-binV, k1, k2, k3, k4, k5, k6, hlt, d4, d5]))
    | refine op_nil ?_ | refine next_normal ?_ | refine go_seq ?_ | refine go_region ?_ | refine go_skip ?_ | refine go_block ?_ | refine inb_normal ?_
    | (apply go_yes; (case hc => simp [-binV, k1, k2, k3, k4, k5, k6, hlt, d4, d5])) | (apply go_no; (case hc => simp [-binV, k1, k2, k3, k4, k5, k6, hlt, d4, d5]))
    | refine go_exit ?_ | refine next_exit ?_ | refine inb_here ?_ | refine inb_past (by decide) ?_ | refine go_ret ?_ | refine next_ret ?_ | refine inb_ret ?_))
        exact ⟨hlt, by simp [k2], trivial⟩
  · have : j = 8 := by omega
    subst this
    (repeat (first
    | (apply is_ok; (case hw => simp [va]); (case he => simp [va]; exact is_rfl))
    | (apply op_no; (case hw => simp [va]))
    | refine op_nil ?_ | refine next_normal ?_ | refine go_seq ?_ | refine go_region ?_ | refine go_skip ?_ | refine go_block ?_ | refine inb_normal ?_
    | (apply go_yes; (case hc => simp [va])) | (apply go_no; (case hc => simp [va]))
    | refine go_exit ?_ | refine next_exit ?_ | refine inb_here ?_ | refine inb_past (by decide) ?_ | refine go_ret ?_ | refine next_ret ?_ | refine inb_ret ?_))
    (apply ends_ok; (case h1 => simp; exact is_rfl); (case h2 => simp; exact is_rfl))
    simp
end Go.Abs

