/- Proved here: what functions of the program compute, over the evaluator. No condition but those that each theorem states. -/
import Derived.Test.YtbnnaaadblpgiaaGreatM4
import Derived.Test.YtbnnaaadblpgiaaGreatM2
import Derived.Test.YtbnnaaadblpgiaaGreatM5
namespace Go.Abs
open Go.Proofs
set_option maxRecDepth 100000
set_option linter.unusedSimpArgs false
set_option linter.unusedVariables false

/-- Is a memory valid? -/
structure MemP (mem bad : List Int) : Prop where
  lo : 256 ≤ 2 * mem.length
  hi : 2 * mem.length ≤ 32768
  div : 2 * mem.length % 64 = 0
  words : Words mem
  ok : ∀ a ∈ bad, 0 ≤ a ∧ a < 2 * mem.length ∧ a % 2 = 0
  asc : bad.Pairwise (· < ·)
noncomputable def memB (mem bad : List Int) : Bool := @decide (MemP mem bad) (Classical.propDecidable _)
theorem memB_yes {mem bad : List Int} (h : MemP mem bad) : memB mem bad = true := by unfold memB; simp [h]
theorem memB_no {mem bad : List Int} (h : ¬ MemP mem bad) : memB mem bad = false := by unfold memB; simp [h]
theorem memB_iff {mem bad : List Int} : memB mem bad = true ↔ MemP mem bad := by unfold memB; simp

theorem Size_eq (n : Nat) : bodyW DC 45 [.int .i64 n] [] = some (.bool (decide (256 ≤ n ∧ n ≤ 32768 ∧ n % 64 = 0)), []) := by
  have q : (n : Int).tmod 64 = (n : Int) % 64 := Int.tmod_eq_emod_of_nonneg (by omega)
  by_cases h1 : 256 ≤ n
  · have c1 : (256 : Int) ≤ n := by omega
    by_cases h2 : n ≤ 32768
    · have c2 : (n : Int) ≤ 32768 := by omega
      have e : (n % 64 = 0) ↔ (n : Int) % 64 = 0 := by omega
      (refine gives_iff ?_; refine go_func Tryz.f45 rfl rfl (by simp [Tryz.f45]) ?_; dsimp only [codeL, Tryz.f45, scL, sopsL, guardL, dstAt, loopKey])
      (repeat (first
    | (apply is_ok; (case hw => simp [c1, c2, q]); (case he => simp [c1, c2, q]; exact is_rfl))
    | (apply op_no; (case hw => simp [c1, c2, q]))
    | refine op_nil ?_ | refine next_normal ?_ | refine go_seq ?_ | refine go_region ?_ | refine go_skip ?_ | refine go_block ?_ | refine inb_normal ?_
    | (apply go_yes; (case hc => simp [c1, c2, q])) | (apply go_no; (case hc => simp [c1, c2, q]))
    | refine go_exit ?_ | refine next_exit ?_ | refine inb_here ?_ | refine inb_past (by decide) ?_ | refine go_ret ?_ | refine next_ret ?_ | refine inb_ret ?_))
      (apply ends_ok; (case h1 => simp; exact is_rfl); (case h2 => simp; exact is_rfl))
      simp [h1, h2, e, Bool.beq_eq_decide_eq]
    · have c2 : ¬ (n : Int) ≤ 32768 := by omega
      (refine gives_iff ?_; refine go_func Tryz.f45 rfl rfl (by simp [Tryz.f45]) ?_; dsimp only [codeL, Tryz.f45, scL, sopsL, guardL, dstAt, loopKey])
      (repeat (first
    | (apply is_ok; (case hw => simp [c1, c2, q]); (case he => simp [c1, c2, q]; exact is_rfl))
    | (apply op_no; (case hw => simp [c1, c2, q]))
    | refine op_nil ?_ | refine next_normal ?_ | refine go_seq ?_ | refine go_region ?_ | refine go_skip ?_ | refine go_block ?_ | refine inb_normal ?_
    | (apply go_yes; (case hc => simp [c1, c2, q])) | (apply go_no; (case hc => simp [c1, c2, q]))
    | refine go_exit ?_ | refine next_exit ?_ | refine inb_here ?_ | refine inb_past (by decide) ?_ | refine go_ret ?_ | refine next_ret ?_ | refine inb_ret ?_))
      (apply ends_ok; (case h1 => simp; exact is_rfl); (case h2 => simp; exact is_rfl))
      simp [h1, h2]
  · have c1 : ¬ (256 : Int) ≤ n := by omega
    (refine gives_iff ?_; refine go_func Tryz.f45 rfl rfl (by simp [Tryz.f45]) ?_; dsimp only [codeL, Tryz.f45, scL, sopsL, guardL, dstAt, loopKey])
    (repeat (first
    | (apply is_ok; (case hw => simp [c1, q]); (case he => simp [c1, q]; exact is_rfl))
    | (apply op_no; (case hw => simp [c1, q]))
    | refine op_nil ?_ | refine next_normal ?_ | refine go_seq ?_ | refine go_region ?_ | refine go_skip ?_ | refine go_block ?_ | refine inb_normal ?_
    | (apply go_yes; (case hc => simp [c1, q])) | (apply go_no; (case hc => simp [c1, q]))
    | refine go_exit ?_ | refine next_exit ?_ | refine inb_here ?_ | refine inb_past (by decide) ?_ | refine go_ret ?_ | refine next_ret ?_ | refine inb_ret ?_))
    (apply ends_ok; (case h1 => simp; exact is_rfl); (case h2 => simp; exact is_rfl))
    simp [h1]
theorem sized_eq (n : Nat) : bodyW DC 87 [.int .i64 n] [] = some (.bool (decide (256 ≤ n ∧ n ≤ 32768 ∧ n % 64 = 0)), []) := by
  have q : (n : Int).tmod 64 = (n : Int) % 64 := Int.tmod_eq_emod_of_nonneg (by omega)
  by_cases h1 : 256 ≤ n
  · have c1 : (256 : Int) ≤ n := by omega
    by_cases h2 : n ≤ 32768
    · have c2 : (n : Int) ≤ 32768 := by omega
      have e : (n % 64 = 0) ↔ (n : Int) % 64 = 0 := by omega
      (refine gives_iff ?_; refine go_func Tryz.f87 rfl rfl (by simp [Tryz.f87]) ?_; dsimp only [codeL, Tryz.f87, scL, sopsL, guardL, dstAt, loopKey])
      (repeat (first
    | (apply is_ok; (case hw => simp [c1, c2, q]); (case he => simp [c1, c2, q]; exact is_rfl))
    | (apply op_no; (case hw => simp [c1, c2, q]))
    | refine op_nil ?_ | refine next_normal ?_ | refine go_seq ?_ | refine go_region ?_ | refine go_skip ?_ | refine go_block ?_ | refine inb_normal ?_
    | (apply go_yes; (case hc => simp [c1, c2, q])) | (apply go_no; (case hc => simp [c1, c2, q]))
    | refine go_exit ?_ | refine next_exit ?_ | refine inb_here ?_ | refine inb_past (by decide) ?_ | refine go_ret ?_ | refine next_ret ?_ | refine inb_ret ?_))
      (apply ends_ok; (case h1 => simp; exact is_rfl); (case h2 => simp; exact is_rfl))
      simp [h1, h2, e, Bool.beq_eq_decide_eq]
    · have c2 : ¬ (n : Int) ≤ 32768 := by omega
      (refine gives_iff ?_; refine go_func Tryz.f87 rfl rfl (by simp [Tryz.f87]) ?_; dsimp only [codeL, Tryz.f87, scL, sopsL, guardL, dstAt, loopKey])
      (repeat (first
    | (apply is_ok; (case hw => simp [c1, c2, q]); (case he => simp [c1, c2, q]; exact is_rfl))
    | (apply op_no; (case hw => simp [c1, c2, q]))
    | refine op_nil ?_ | refine next_normal ?_ | refine go_seq ?_ | refine go_region ?_ | refine go_skip ?_ | refine go_block ?_ | refine inb_normal ?_
    | (apply go_yes; (case hc => simp [c1, c2, q])) | (apply go_no; (case hc => simp [c1, c2, q]))
    | refine go_exit ?_ | refine next_exit ?_ | refine inb_here ?_ | refine inb_past (by decide) ?_ | refine go_ret ?_ | refine next_ret ?_ | refine inb_ret ?_))
      (apply ends_ok; (case h1 => simp; exact is_rfl); (case h2 => simp; exact is_rfl))
      simp [h1, h2]
  · have c1 : ¬ (256 : Int) ≤ n := by omega
    (refine gives_iff ?_; refine go_func Tryz.f87 rfl rfl (by simp [Tryz.f87]) ?_; dsimp only [codeL, Tryz.f87, scL, sopsL, guardL, dstAt, loopKey])
    (repeat (first
    | (apply is_ok; (case hw => simp [c1, q]); (case he => simp [c1, q]; exact is_rfl))
    | (apply op_no; (case hw => simp [c1, q]))
    | refine op_nil ?_ | refine next_normal ?_ | refine go_seq ?_ | refine go_region ?_ | refine go_skip ?_ | refine go_block ?_ | refine inb_normal ?_
    | (apply go_yes; (case hc => simp [c1, q])) | (apply go_no; (case hc => simp [c1, q]))
    | refine go_exit ?_ | refine next_exit ?_ | refine inb_here ?_ | refine inb_past (by decide) ?_ | refine go_ret ?_ | refine next_ret ?_ | refine inb_ret ?_))
    (apply ends_ok; (case h1 => simp; exact is_rfl); (case h2 => simp; exact is_rfl))
    simp [h1]

theorem last_le {bad : List Int} {i : Nat} (hi : i < bad.length) (h : (bad.take i).Pairwise (· < ·)) {a : Int} (ha : a ∈ bad.take i) : ∃ h0 : 0 < i, a ≤ bad[i - 1] := by
  obtain ⟨j, hj, rfl⟩ := List.mem_iff_getElem.1 ha
  rw [List.length_take] at hj
  refine ⟨by omega, ?_⟩
  rw [List.getElem_take]
  rw [List.pairwise_iff_getElem] at h
  rcases Nat.lt_or_ge j (i - 1) with h1 | h1
  · have := h j (i - 1) (by rw [List.length_take]; omega) (by rw [List.length_take]; omega) h1
    rw [List.getElem_take, List.getElem_take] at this
    exact Int.le_of_lt this
  · have : j = i - 1 := by omega
    subst this
    exact Int.le_refl _
theorem asc_step {bad : List Int} {i : Nat} (hi : i < bad.length) (h : (bad.take i).Pairwise (· < ·)) (hl : ∀ h0 : 0 < i, bad[i - 1] < bad[i]) : (bad.take (i + 1)).Pairwise (· < ·) := by
  rw [List.take_succ_eq_append_getElem hi, List.pairwise_append]
  refine ⟨h, List.pairwise_singleton .., fun a ha b hb => ?_⟩
  rw [List.mem_singleton] at hb
  subst hb
  obtain ⟨h0, h1⟩ := last_le hi h ha
  have := hl h0
  omega

set_option maxHeartbeats 2000000 in
theorem memRightR_eq (mem bad : List Int) (hm : mem.length ≤ 1000000) (hb : bad.length ≤ 1000000) : bodyW DC 12 [.sl (ints mem), .sl (ints bad)] [] = some (.bool (memB mem bad), []) := by
  have v1 := Size_eq (2 * mem.length)
  have w0 : IntKind.i64.wrap (2 * (mem.length : Int)) = 2 * (mem.length : Int) := wrap_id (by omega) (by omega)
  push_cast at v1
  generalize hB : memB mem bad = B
  by_cases hz : 256 ≤ 2 * mem.length ∧ 2 * mem.length ≤ 32768 ∧ 2 * mem.length % 64 = 0
  case neg =>
    rw [decide_eq_false hz] at v1
    obtain rfl : B = false := by rw [← hB]; exact memB_no fun h => hz ⟨h.lo, h.hi, h.div⟩
    (refine gives_iff ?_; refine go_func Tryz.f12 rfl rfl (by simp [Tryz.f12]) ?_; dsimp only [codeL, Tryz.f12, scL, sopsL, guardL, dstAt, loopKey])
    (repeat (first
    | (apply is_ok; (case hw => simp [v1, w0]); (case he => simp [v1, w0]; exact is_rfl))
    | (apply op_no; (case hw => simp [v1, w0]))
    | refine op_nil ?_ | refine next_normal ?_ | refine go_seq ?_ | refine go_region ?_ | refine go_skip ?_ | refine go_block ?_ | refine inb_normal ?_
    | (apply go_yes; (case hc => simp [v1, w0])) | (apply go_no; (case hc => simp [v1, w0]))
    | refine go_exit ?_ | refine next_exit ?_ | refine inb_here ?_ | refine inb_past (by decide) ?_ | refine go_ret ?_ | refine next_ret ?_ | refine inb_ret ?_))
    (apply ends_ok; (case h1 => simp; exact is_rfl); (case h2 => simp; exact is_rfl))
    simp
  rw [decide_eq_true hz] at v1
  (refine gives_iff ?_; refine go_func Tryz.f12 rfl rfl (by simp [Tryz.f12]) ?_; dsimp only [codeL, Tryz.f12, scL, sopsL, guardL, dstAt, loopKey])
  (repeat (first
    | (apply is_ok; (case hw => simp [v1, w0]); (case he => simp [v1, w0]; exact is_rfl))
    | (apply op_no; (case hw => simp [v1, w0]))
    | refine op_nil ?_ | refine next_normal ?_ | refine go_seq ?_ | refine go_region ?_ | refine go_skip ?_ | refine go_block ?_ | refine inb_normal ?_
    | (apply go_yes; (case hc => simp [v1, w0])) | (apply go_no; (case hc => simp [v1, w0]))
    | refine go_exit ?_ | refine next_exit ?_ | refine inb_here ?_ | refine inb_past (by decide) ?_ | refine go_ret ?_ | refine next_ret ?_ | refine inb_ret ?_))
  refine go_count mem.length (fun i => [(0, .sl (ints mem)), (1, .sl (ints bad)), (5, .int .i64 i)]) (fun _ => []) (fun i => ∀ j (h : j < mem.length), j < i → 0 ≤ mem[j] ∧ mem[j] ≤ 65535) (by simp) (fun j _ h => absurd h (Nat.not_lt_zero j)) fun i hi hI => ?_
  by_cases hlt : i < mem.length
  · have g1 : (i : Int) < mem.length := by omega
    have g2 : mem[i]? = some mem[i] := List.getElem?_eq_getElem hlt
    have w1 : IntKind.i64.wrap ((i : Int) + 1) = (i : Int) + 1 := wrap_id (by omega) (by omega)
    by_cases c1 : mem[i] < 0
    · obtain rfl : B = false := by
        rw [← hB]; exact memB_no fun h => by have := h.words _ (List.getElem_mem hlt); omega
      (repeat (first
    | (apply is_ok; (case hw => simp [g1, g2, hlt, c1]); (case he => simp [g1, g2, hlt, c1]; exact is_rfl))
    | (apply op_no; (case hw => simp [g1, g2, hlt, c1]))
    | refine op_nil ?_ | refine next_normal ?_ | refine go_seq ?_ | refine go_region ?_ | refine go_skip ?_ | refine go_block ?_ | refine inb_normal ?_
    | (apply go_yes; (case hc => simp [g1, g2, hlt, c1])) | (apply go_no; (case hc => simp [g1, g2, hlt, c1]))
    | refine go_exit ?_ | refine next_exit ?_ | refine inb_here ?_ | refine inb_past (by decide) ?_ | refine go_ret ?_ | refine next_ret ?_ | refine inb_ret ?_))
      (apply ends_ok; (case h1 => simp; exact is_rfl); (case h2 => simp; exact is_rfl))
      simp
    by_cases c2 : 65535 < mem[i]
    · obtain rfl : B = false := by
        rw [← hB]; exact memB_no fun h => by have := h.words _ (List.getElem_mem hlt); omega
      (repeat (first
    | (apply is_ok; (case hw => simp [g1, g2, hlt, c1, c2]); (case he => simp [g1, g2, hlt, c1, c2]; exact is_rfl))
    | (apply op_no; (case hw => simp [g1, g2, hlt, c1, c2]))
    | refine op_nil ?_ | refine next_normal ?_ | refine go_seq ?_ | refine go_region ?_ | refine go_skip ?_ | refine go_block ?_ | refine inb_normal ?_
    | (apply go_yes; (case hc => simp [g1, g2, hlt, c1, c2])) | (apply go_no; (case hc => simp [g1, g2, hlt, c1, c2]))
    | refine go_exit ?_ | refine next_exit ?_ | refine inb_here ?_ | refine inb_past (by decide) ?_ | refine go_ret ?_ | refine next_ret ?_ | refine inb_ret ?_))
      (apply ends_ok; (case h1 => simp; exact is_rfl); (case h2 => simp; exact is_rfl))
      simp
    · (repeat (first
    | (apply is_ok; (case hw => simp [g1, g2, hlt, c1, c2, w1]); (case he => simp [g1, g2, hlt, c1, c2, w1]; exact is_rfl))
    | (apply op_no; (case hw => simp [g1, g2, hlt, c1, c2, w1]))
    | refine op_nil ?_ | refine next_normal ?_ | refine go_seq ?_ | refine go_region ?_ | refine go_skip ?_ | refine go_block ?_ | refine inb_normal ?_
    | (apply go_yes; (case hc => simp [g1, g2, hlt, c1, c2, w1])) | (apply go_no; (case hc => simp [g1, g2, hlt, c1, c2, w1]))
    | refine go_exit ?_ | refine next_exit ?_ | refine inb_here ?_ | refine inb_past (by decide) ?_ | refine go_ret ?_ | refine next_ret ?_ | refine inb_ret ?_))
      exact ⟨hlt, by simp [w1], fun j h hj => by
        rcases Nat.lt_or_ge j i with h1 | h1
        · exact hI j h h1
        · have : j = i := by omega
          subst this
          omega⟩
  have hW : Words mem := fun w hw => by
    obtain ⟨j, hj, rfl⟩ := List.mem_iff_getElem.1 hw
    exact hI j hj (by omega)
  have g1 : ¬ (i : Int) < mem.length := by omega
  (repeat (first
    | (apply is_ok; (case hw => simp [g1]); (case he => simp [g1]; exact is_rfl))
    | (apply op_no; (case hw => simp [g1]))
    | refine op_nil ?_ | refine next_normal ?_ | refine go_seq ?_ | refine go_region ?_ | refine go_skip ?_ | refine go_block ?_ | refine inb_normal ?_
    | (apply go_yes; (case hc => simp [g1])) | (apply go_no; (case hc => simp [g1]))
    | refine go_exit ?_ | refine next_exit ?_ | refine inb_here ?_ | refine inb_past (by decide) ?_ | refine go_ret ?_ | refine next_ret ?_ | refine inb_ret ?_))
  refine go_count bad.length (fun i => [(0, .sl (ints mem)), (1, .sl (ints bad)), (6, .int .i64 i)]) (fun _ => []) (fun i => (∀ a ∈ bad.take i, 0 ≤ a ∧ a < 2 * mem.length ∧ a % 2 = 0) ∧ (bad.take i).Pairwise (· < ·)) (by simp) (by simp) fun k hk hK => ?_
  by_cases hlt : k < bad.length
  · have g3 : (k : Int) < bad.length := by omega
    have g4 : bad[k]? = some bad[k] := List.getElem?_eq_getElem hlt
    have w1 : IntKind.i64.wrap ((k : Int) + 1) = (k : Int) + 1 := wrap_id (by omega) (by omega)
    have mk := List.getElem_mem hlt
    by_cases c1 : bad[k] < 0
    · obtain rfl : B = false := by
        rw [← hB]; exact memB_no fun h => by have := h.ok _ mk; omega
      (repeat (first
    | (apply is_ok; (case hw => simp [g3, g4, hlt, c1]); (case he => simp [g3, g4, hlt, c1]; exact is_rfl))
    | (apply op_no; (case hw => simp [g3, g4, hlt, c1]))
    | refine op_nil ?_ | refine next_normal ?_ | refine go_seq ?_ | refine go_region ?_ | refine go_skip ?_ | refine go_block ?_ | refine inb_normal ?_
    | (apply go_yes; (case hc => simp [g3, g4, hlt, c1])) | (apply go_no; (case hc => simp [g3, g4, hlt, c1]))
    | refine go_exit ?_ | refine next_exit ?_ | refine inb_here ?_ | refine inb_past (by decide) ?_ | refine go_ret ?_ | refine next_ret ?_ | refine inb_ret ?_))
      (apply ends_ok; (case h1 => simp; exact is_rfl); (case h2 => simp; exact is_rfl))
      simp
    by_cases c2 : 2 * (mem.length : Int) ≤ bad[k]
    · obtain rfl : B = false := by
        rw [← hB]; exact memB_no fun h => by have := h.ok _ mk; omega
      (repeat (first
    | (apply is_ok; (case hw => simp [g3, g4, hlt, c1, c2, w0]); (case he => simp [g3, g4, hlt, c1, c2, w0]; exact is_rfl))
    | (apply op_no; (case hw => simp [g3, g4, hlt, c1, c2, w0]))
    | refine op_nil ?_ | refine next_normal ?_ | refine go_seq ?_ | refine go_region ?_ | refine go_skip ?_ | refine go_block ?_ | refine inb_normal ?_
    | (apply go_yes; (case hc => simp [g3, g4, hlt, c1, c2, w0])) | (apply go_no; (case hc => simp [g3, g4, hlt, c1, c2, w0]))
    | refine go_exit ?_ | refine next_exit ?_ | refine inb_here ?_ | refine inb_past (by decide) ?_ | refine go_ret ?_ | refine next_ret ?_ | refine inb_ret ?_))
      (apply ends_ok; (case h1 => simp; exact is_rfl); (case h2 => simp; exact is_rfl))
      simp
    have q : bad[k].tmod 2 = bad[k] % 2 := Int.tmod_eq_emod_of_nonneg (by omega)
    by_cases c3 : bad[k] % 2 = 0
    case neg =>
      obtain rfl : B = false := by
        rw [← hB]; exact memB_no fun h => c3 (h.ok _ mk).2.2
      (repeat (first
    | (apply is_ok; (case hw => simp [g3, g4, hlt, c1, c2, c3, w0, q]); (case he => simp [g3, g4, hlt, c1, c2, c3, w0, q]; exact is_rfl))
    | (apply op_no; (case hw => simp [g3, g4, hlt, c1, c2, c3, w0, q]))
    | refine op_nil ?_ | refine next_normal ?_ | refine go_seq ?_ | refine go_region ?_ | refine go_skip ?_ | refine go_block ?_ | refine inb_normal ?_
    | (apply go_yes; (case hc => simp [g3, g4, hlt, c1, c2, c3, w0, q])) | (apply go_no; (case hc => simp [g3, g4, hlt, c1, c2, c3, w0, q]))
    | refine go_exit ?_ | refine next_exit ?_ | refine inb_here ?_ | refine inb_past (by decide) ?_ | refine go_ret ?_ | refine next_ret ?_ | refine inb_ret ?_))
      (apply ends_ok; (case h1 => simp; exact is_rfl); (case h2 => simp; exact is_rfl))
      simp
    have nk : ∀ (hl : ∀ h0 : 0 < k, bad[k - 1] < bad[k]), (∀ a ∈ bad.take (k + 1), 0 ≤ a ∧ a < 2 * mem.length ∧ a % 2 = 0) ∧ (bad.take (k + 1)).Pairwise (· < ·) := fun hl => by
      refine ⟨fun a ha => ?_, asc_step hlt hK.2 hl⟩
      rw [List.take_succ_eq_append_getElem hlt, List.mem_append, List.mem_singleton] at ha
      rcases ha with ha | rfl
      · exact hK.1 a ha
      · exact ⟨by omega, by omega, c3⟩
    rcases Nat.eq_zero_or_pos k with k0 | k0
    · subst k0
      (repeat (first
    | (apply is_ok; (case hw => simp [g3, g4, hlt, c1, c2, c3, w0, w1, q]); (case he => simp [g3, g4, hlt, c1, c2, c3, w0, w1, q]; exact is_rfl))
    | (apply op_no; (case hw => simp [g3, g4, hlt, c1, c2, c3, w0, w1, q]))
    | refine op_nil ?_ | refine next_normal ?_ | refine go_seq ?_ | refine go_region ?_ | refine go_skip ?_ | refine go_block ?_ | refine inb_normal ?_
    | (apply go_yes; (case hc => simp [g3, g4, hlt, c1, c2, c3, w0, w1, q])) | (apply go_no; (case hc => simp [g3, g4, hlt, c1, c2, c3, w0, w1, q]))
    | refine go_exit ?_ | refine next_exit ?_ | refine inb_here ?_ | refine inb_past (by decide) ?_ | refine go_ret ?_ | refine next_ret ?_ | refine inb_ret ?_))
      exact ⟨hlt, by simp [w1], nk fun h => absurd h (by decide)⟩
    · obtain ⟨m, hmk⟩ : ∃ m, m = k - 1 := ⟨_, rfl⟩
      have w2 : IntKind.i64.wrap ((k : Int) - 1) = (m : Int) := by rw [wrap_id (by omega) (by omega)]; omega
      have hlm : m < bad.length := by omega
      have g5 : bad[m]? = some bad[m] := List.getElem?_eq_getElem hlm
      have g6 : (0 : Int) < (k : Int) := by omega
      by_cases c4 : bad[k] ≤ bad[m]
      · obtain rfl : B = false := by
          rw [← hB]; exact memB_no fun h => by
            have := List.pairwise_iff_getElem.1 h.asc m k hlm hlt (by omega)
            omega
        (repeat (first
    | (apply is_ok; (case hw => simp [g3, g4, g5, g6, k0, hlm, hlt, c1, c2, c3, c4, w0, w1, w2, q]); (case he => simp [g3, g4, g5, g6, k0, hlm, hlt, c1, c2, c3, c4, w0, w1, w2, q]; exact is_rfl))
    | (apply op_no; (case hw => simp [g3, g4, g5, g6, k0, hlm, hlt, c1, c2, c3, c4, w0, w1, w2, q]))
    | refine op_nil ?_ | refine next_normal ?_ | refine go_seq ?_ | refine go_region ?_ | refine go_skip ?_ | refine go_block ?_ | refine inb_normal ?_
    | (apply go_yes; (case hc => simp [g3, g4, g5, g6, k0, hlm, hlt, c1, c2, c3, c4, w0, w1, w2, q])) | (apply go_no; (case hc => simp [g3, g4, g5, g6, k0, hlm, hlt, c1, c2, c3, c4, w0, w1, w2, q]))
    | refine go_exit ?_ | refine next_exit ?_ | refine inb_here ?_ | refine inb_past (by decide) ?_ | refine go_ret ?_ | refine next_ret ?_ | refine inb_ret ?_))
        (apply ends_ok; (case h1 => simp; exact is_rfl); (case h2 => simp; exact is_rfl))
        simp
      · have nk2 := nk fun _ => by
          have e : bad[k - 1]'(by omega) = bad[m] := by simp only [hmk]
          rw [e]
          omega
        (repeat (first
    | (apply is_ok; (case hw => simp [g3, g4, g5, g6, k0, hlm, hlt, c1, c2, c3, c4, w0, w1, w2, q]); (case he => simp [g3, g4, g5, g6, k0, hlm, hlt, c1, c2, c3, c4, w0, w1, w2, q]; exact is_rfl))
    | (apply op_no; (case hw => simp [g3, g4, g5, g6, k0, hlm, hlt, c1, c2, c3, c4, w0, w1, w2, q]))
    | refine op_nil ?_ | refine next_normal ?_ | refine go_seq ?_ | refine go_region ?_ | refine go_skip ?_ | refine go_block ?_ | refine inb_normal ?_
    | (apply go_yes; (case hc => simp [g3, g4, g5, g6, k0, hlm, hlt, c1, c2, c3, c4, w0, w1, w2, q])) | (apply go_no; (case hc => simp [g3, g4, g5, g6, k0, hlm, hlt, c1, c2, c3, c4, w0, w1, w2, q]))
    | refine go_exit ?_ | refine next_exit ?_ | refine inb_here ?_ | refine inb_past (by decide) ?_ | refine go_ret ?_ | refine next_ret ?_ | refine inb_ret ?_))
        exact ⟨hlt, by simp [w1], nk2⟩
  · have : k = bad.length := by omega
    subst this
    rw [List.take_length] at hK
    obtain rfl : B = true := by rw [← hB]; exact memB_yes ⟨hz.1, hz.2.1, hz.2.2, hW, hK.1, hK.2⟩
    have g3 : ¬ (bad.length : Int) < bad.length := by omega
    (repeat (first
    | (apply is_ok; (case hw => simp [g3]); (case he => simp [g3]; exact is_rfl))
    | (apply op_no; (case hw => simp [g3]))
    | refine op_nil ?_ | refine next_normal ?_ | refine go_seq ?_ | refine go_region ?_ | refine go_skip ?_ | refine go_block ?_ | refine inb_normal ?_
    | (apply go_yes; (case hc => simp [g3])) | (apply go_no; (case hc => simp [g3]))
    | refine go_exit ?_ | refine next_exit ?_ | refine inb_here ?_ | refine inb_past (by decide) ?_ | refine go_ret ?_ | refine next_ret ?_ | refine inb_ret ?_))
    (apply ends_ok; (case h1 => simp; exact is_rfl); (case h2 => simp; exact is_rfl))
    simp

theorem and_ffff (x : Int) : IntKind.i64.wrap ((BitVec.ofInt 64 x &&& 65535#64).toNat : Int) = x % 65536 := by
  have h : (BitVec.ofInt 64 x &&& 65535#64).toNat = (x % 18446744073709551616).toNat % 65536 := by
    rw [BitVec.toNat_and, BitVec.toNat_ofInt]
    exact Nat.and_two_pow_sub_one_eq_mod _ 16
  rw [h, wrap_id (by omega) (by omega)]
  omega
theorem intOp_andF (x : Int) : intOp .and .i64 x 65535 = some (.int .i64 (x % 65536)) := by
  show some (V.int .i64 (IntKind.i64.wrap ((BitVec.ofInt 64 x &&& BitVec.ofInt 64 65535).toNat : Int))) = _
  rw [show BitVec.ofInt 64 65535 = 65535#64 from rfl, and_ffff x]
theorem intOp_add' (k : IntKind) (a b : Int) : intOp .add k a b = some (.int k (k.wrap (a + b))) := rfl
theorem intOp_mul' (k : IntKind) (a b : Int) : intOp .mul k a b = some (.int k (k.wrap (a * b))) := rfl
theorem intOp_eql' (k : IntKind) (a b : Int) : intOp .eql k a b = some (.bool (a == b)) := rfl
theorem intOp_neq' (k : IntKind) (a b : Int) : intOp .neq k a b = some (.bool (a != b)) := rfl
theorem intOp_lss' (k : IntKind) (a b : Int) : intOp .lss k a b = some (.bool (decide (a < b))) := rfl

end Go.Abs

namespace Go.Abs
open Go.Proofs
set_option maxRecDepth 100000
set_option linter.unusedSimpArgs false
set_option linter.unusedVariables false

theorem right_len {S : List (List UInt8)} {B : List Int} (h : RightP S B) : B.length ≤ S.length := by
  obtain ⟨h1, h2, h3, h4, h5⟩ := h
  have key : ∀ i, i < B.length → (i : Int) ≤ B.getD i 0 := fun i => by
    induction i with
    | zero =>
      intro hi
      have := h4 B[0] (List.getElem_mem hi)
      rw [List.getD_eq_getElem?_getD, List.getElem?_eq_getElem hi]
      exact this.1
    | succ i ih =>
      intro hi
      have h6 := ih (by omega)
      have h7 := h5 (i + 1) (List.mem_range.2 hi) (by omega)
      rw [Nat.add_sub_cancel] at h7
      omega
  rcases Nat.eq_zero_or_pos B.length with h0 | h0
  · omega
  · have h6 := key (B.length - 1) (by omega)
    have h7 := h4 (B.getD (B.length - 1) 0) (by rw [List.getD_eq_getElem?_getD, List.getElem?_eq_getElem (by omega)]; exact List.getElem_mem _)
    omega

noncomputable def fewB (s : Sys) : Bool := decide (s.mem.length ≤ 1024) && decide (s.bad.length ≤ 1024) && decide (s.S.length ≤ 64) && memB s.mem s.bad && decide (RightP s.S s.B)
theorem few_eq (s : Sys) (hs : s.Wf) : bodyW DC 4 [.agg s.cells] [] = some (.bool (fewB s), []) := by
  have v2 := RightR_eq s.S s.B hs.B
  unfold fewB
  by_cases h1 : s.mem.length ≤ 1024
  · have c1 : (s.mem.length : Int) ≤ 1024 := by omega
    by_cases h2 : s.bad.length ≤ 1024
    · have c2 : (s.bad.length : Int) ≤ 1024 := by omega
      by_cases h3 : s.S.length ≤ 64
      · have c3 : (s.S.length : Int) ≤ 64 := by omega
        have v1 := memRightR_eq s.mem s.bad (by omega) (by omega)
        generalize decide (RightP s.S s.B) = q at v2
        cases hq : memB s.mem s.bad <;>
        · rw [hq] at v1
          (refine gives_iff ?_; refine go_func Tryz.f4 rfl rfl (by simp [Tryz.f4]) ?_; dsimp only [codeL, Tryz.f4, scL, sopsL, guardL, dstAt, loopKey])
          (repeat (first
    | (apply is_ok; (case hw => simp [c1, c2, c3, v1, v2]); (case he => simp [c1, c2, c3, v1, v2]; exact is_rfl))
    | (apply op_no; (case hw => simp [c1, c2, c3, v1, v2]))
    | refine op_nil ?_ | refine next_normal ?_ | refine go_seq ?_ | refine go_region ?_ | refine go_skip ?_ | refine go_block ?_ | refine inb_normal ?_
    | (apply go_yes; (case hc => simp [c1, c2, c3, v1, v2])) | (apply go_no; (case hc => simp [c1, c2, c3, v1, v2]))
    | refine go_exit ?_ | refine next_exit ?_ | refine inb_here ?_ | refine inb_past (by decide) ?_ | refine go_ret ?_ | refine next_ret ?_ | refine inb_ret ?_))
          (apply ends_ok; (case h1 => simp; exact is_rfl); (case h2 => simp; exact is_rfl))
          simp [h1, h2, h3]
      · have c3 : ¬ (s.S.length : Int) ≤ 64 := by omega
        (refine gives_iff ?_; refine go_func Tryz.f4 rfl rfl (by simp [Tryz.f4]) ?_; dsimp only [codeL, Tryz.f4, scL, sopsL, guardL, dstAt, loopKey])
        (repeat (first
    | (apply is_ok; (case hw => simp [c1, c2, c3]); (case he => simp [c1, c2, c3]; exact is_rfl))
    | (apply op_no; (case hw => simp [c1, c2, c3]))
    | refine op_nil ?_ | refine next_normal ?_ | refine go_seq ?_ | refine go_region ?_ | refine go_skip ?_ | refine go_block ?_ | refine inb_normal ?_
    | (apply go_yes; (case hc => simp [c1, c2, c3])) | (apply go_no; (case hc => simp [c1, c2, c3]))
    | refine go_exit ?_ | refine next_exit ?_ | refine inb_here ?_ | refine inb_past (by decide) ?_ | refine go_ret ?_ | refine next_ret ?_ | refine inb_ret ?_))
        (apply ends_ok; (case h1 => simp; exact is_rfl); (case h2 => simp; exact is_rfl))
        simp [h3]
    · have c2 : ¬ (s.bad.length : Int) ≤ 1024 := by omega
      (refine gives_iff ?_; refine go_func Tryz.f4 rfl rfl (by simp [Tryz.f4]) ?_; dsimp only [codeL, Tryz.f4, scL, sopsL, guardL, dstAt, loopKey])
      (repeat (first
    | (apply is_ok; (case hw => simp [c1, c2]); (case he => simp [c1, c2]; exact is_rfl))
    | (apply op_no; (case hw => simp [c1, c2]))
    | refine op_nil ?_ | refine next_normal ?_ | refine go_seq ?_ | refine go_region ?_ | refine go_skip ?_ | refine go_block ?_ | refine inb_normal ?_
    | (apply go_yes; (case hc => simp [c1, c2])) | (apply go_no; (case hc => simp [c1, c2]))
    | refine go_exit ?_ | refine next_exit ?_ | refine inb_here ?_ | refine inb_past (by decide) ?_ | refine go_ret ?_ | refine next_ret ?_ | refine inb_ret ?_))
      (apply ends_ok; (case h1 => simp; exact is_rfl); (case h2 => simp; exact is_rfl))
      simp [h2]
  · have c1 : ¬ (s.mem.length : Int) ≤ 1024 := by omega
    (refine gives_iff ?_; refine go_func Tryz.f4 rfl rfl (by simp [Tryz.f4]) ?_; dsimp only [codeL, Tryz.f4, scL, sopsL, guardL, dstAt, loopKey])
    (repeat (first
    | (apply is_ok; (case hw => simp [c1]); (case he => simp [c1]; exact is_rfl))
    | (apply op_no; (case hw => simp [c1]))
    | refine op_nil ?_ | refine next_normal ?_ | refine go_seq ?_ | refine go_region ?_ | refine go_skip ?_ | refine go_block ?_ | refine inb_normal ?_
    | (apply go_yes; (case hc => simp [c1])) | (apply go_no; (case hc => simp [c1]))
    | refine go_exit ?_ | refine next_exit ?_ | refine inb_here ?_ | refine inb_past (by decide) ?_ | refine go_ret ?_ | refine next_ret ?_ | refine inb_ret ?_))
    (apply ends_ok; (case h1 => simp; exact is_rfl); (case h2 => simp; exact is_rfl))
    simp [h1]

/-- A system of the laws. -/
structure Nice (s : Sys) : Prop where
  wf : s.Wf
  fine : Fine s
  mem : MemP s.mem s.bad
  drv : RightP s.S s.B
  badl : s.bad.length ≤ 1024
theorem nice_of {s : Sys} (hs : s.Wf) (h1 : fewB s = true) (h2 : rightB s = true) : Nice s := by
  unfold fewB at h1
  simp only [Bool.and_eq_true, decide_eq_true_eq] at h1
  obtain ⟨⟨⟨⟨a1, a2⟩, a3⟩, a4⟩, a5⟩ := h1
  have hm := memB_iff.1 a4
  have hr : rightP s := by
    by_cases hc : rightP s
    · exact hc
    · rw [rightB_no hc] at h2; cases h2
  rw [rightB_yes hr, Bool.and_eq_true] at h2
  exact ⟨hs, ⟨a1, a3, by have := right_len a5; omega, hm.words, hr, apB_iff.1 h2.1, apB_iff.1 h2.2⟩, hm, a5, a2⟩

/-- A process is swapped out: which one, where to, and the sectors behind. -/
structure OutOk (s : Sys) (k : Int) (i : Nat) (p : Pr) (n0 : Int) (T : List (List UInt8)) : Prop where
  hk : k = i
  hp : s.ps[i]? = some p
  has : hasP p
  swd : p.swd = false
  fit : fitN (swpL s.ps) s.sw (secN p.blk) = some n0
  ok : OkAll s.S.length s.B (outW (bytesL s.mem (p.base.toNat * 64) (p.blk.toNat * 64)) n0 (secN p.blk).toNat)
  hT : T = puts s.S (outW (bytesL s.mem (p.base.toNat * 64) (p.blk.toNat * 64)) n0 (secN p.blk).toNat)
  run : bodyW DC 6 [.agg s.cells, .int .i64 k] [] = some (.tuple [.agg ((s.setP i { p with base := n0, swd := true }).cw (.sl (ints s.mem)) (.sl (ints s.bad)) (.own 0 s.S.length 0 s.S.length) (.own 1 s.B.length 0 s.B.length)), .int .i64 0], [.dat true 1 (strs T), .dat true 1 (ints s.B)])

theorem Out_cases (s : Sys) (h : Nice s) (k : Int) : (∃ e, e ≠ 0 ∧ bodyW DC 6 [.agg s.cells, .int .i64 k] [] = some (.tuple [.agg zN, .int .i64 e], [])) ∨ ∃ i p n0 T, OutOk s k i p n0 T := by
  cases hb : imgB s.ps k false with
  | false => exact .inl ⟨1, by decide, Out_no s k hb⟩
  | true =>
    obtain ⟨i, p, rfl, hp, h1, h2⟩ := imgB_iff.1 hb
    cases hf : fitN (swpL s.ps) s.sw (secN p.blk) with
    | none => exact .inl ⟨12, by decide, Out_full s h.fine i p hp h1 h2 h.wf.ps hf⟩
    | some n0 =>
      obtain ⟨c1, c2, c3, c4, c5, c6⟩ := core_in h.fine (List.mem_of_getElem? hp) h1 h2
      obtain ⟨s1, s2, s3⟩ := secN_bound c4 c5
      have hroom := ((fit_least (l := swpL s.ps) (w := s.sw) (k := secN p.blk) s1).1 n0 hf).1
      have u := h.fine.right.2.1
      have r1 := hroom.2.1
      have r2 := hroom.2.2
      have u1 := u.1
      have u2 := u.2.1
      have u3 := u.2.2.2
      have hw := Out_walk s h.fine i p hp h1 h2 h.wf.ps n0 hf ⟨by omega, by omega⟩
      by_cases hz : (outR s p n0).2.2 = 0
      · rw [if_pos hz] at hw
        have hok : OkAll s.S.length s.B (outW (bytesL s.mem (p.base.toNat * 64) (p.blk.toNat * 64)) n0 (secN p.blk).toNat) := by
          by_cases hc : OkAll s.S.length s.B (outW (bytesL s.mem (p.base.toNat * 64) (p.blk.toNat * 64)) n0 (secN p.blk).toNat)
          · exact hc
          · exact absurd hz (applyS_err s.B _ _ 0 hc).1
        have hT : (outR s p n0).1 = puts s.S (outW (bytesL s.mem (p.base.toNat * 64) (p.blk.toNat * 64)) n0 (secN p.blk).toNat) := by
          unfold outR
          rw [applyS_all s.B _ _ 0 hok]
        exact .inr ⟨i, p, n0, (outR s p n0).1, rfl, hp, h1, h2, hf, hok, hT, hw⟩
      · rw [if_neg hz] at hw
        exact .inl ⟨_, hz, hw⟩

/-- A process is swapped in. -/
structure InOk (s : Sys) (k : Int) (i : Nat) (p : Pr) (n0 : Int) (M Z : List Int) (c : Nat) : Prop where
  hk : k = i
  hp : s.ps[i]? = some p
  has : hasP p
  swd : p.swd = true
  fit : fitN (coreL s.ps) s.co p.blk = some n0
  hM : M = storeN s.mem (n0.toNat * 64) (inT s p) (inT s p).length
  hZ : Z = (s.bad.filter fun a => !inR (n0 * 64) (p.blk * 64) a) ++ List.replicate (s.bad.length - (s.bad.filter fun a => !inR (n0 * 64) (p.blk * 64) a).length) 0
  hc : c = (s.bad.filter fun a => !inR (n0 * 64) (p.blk * 64) a).length
  run : bodyW DC 8 [.agg s.cells, .int .i64 k] [] = some (.tuple [.agg ((s.setP i { p with base := n0, swd := false }).cw (.own 0 s.mem.length 0 s.mem.length) (.own 1 s.bad.length 0 c) (.sl (strs s.S)) (.sl (ints s.B))), .int .i64 0], [.dat true 1 (ints M), .dat true 1 (ints Z)])

theorem In_cases (s : Sys) (h : Nice s) (k : Int) : (∃ e, e ≠ 0 ∧ bodyW DC 8 [.agg s.cells, .int .i64 k] [] = some (.tuple [.agg zN, .int .i64 e], [])) ∨ ∃ i p n0 M Z c, InOk s k i p n0 M Z c := by
  cases hb : imgB s.ps k true with
  | false => exact .inl ⟨1, by decide, In_no s k hb⟩
  | true =>
    obtain ⟨i, p, rfl, hp, h1, h2⟩ := imgB_iff.1 hb
    cases hf : fitN (coreL s.ps) s.co p.blk with
    | none => exact .inl ⟨26, by decide, In_full s h.fine i p hp h1 h2 hf⟩
    | some n0 =>
      by_cases hall : ∀ j : Nat, (j : Int) < secN p.blk → (readS s.S s.B (p.base + j)).2 = 0
      · exact .inr ⟨i, p, n0, _, _, _, rfl, hp, h1, h2, hf, rfl, rfl, rfl, In_ok s h.fine i p hp h1 h2 h.wf.ps h.badl h.drv n0 hf hall⟩
      · have hex : ∃ j : Nat, (j : Int) < secN p.blk ∧ (readS s.S s.B (p.base + j)).2 ≠ 0 := by
          by_cases hc : ∃ j : Nat, (j : Int) < secN p.blk ∧ (readS s.S s.B (p.base + j)).2 ≠ 0
          · exact hc
          · exact absurd (fun j hj => Classical.byContradiction fun hn => hc ⟨j, hj, hn⟩) hall
        have hwf : ∀ m : Nat, ∀ j : Nat, j ≤ m → (j : Int) < secN p.blk → (readS s.S s.B (p.base + j)).2 ≠ 0 → ∃ j0 : Nat, (j0 : Int) < secN p.blk ∧ (readS s.S s.B (p.base + j0)).2 ≠ 0 ∧ ∀ q : Nat, q < j0 → (readS s.S s.B (p.base + q)).2 = 0 := by
          intro m
          induction m with
          | zero => intro j hj h3 h4; exact ⟨j, h3, h4, fun q hq => by omega⟩
          | succ m ih =>
            intro j hj h3 h4
            by_cases hq : ∃ q : Nat, q < j ∧ (readS s.S s.B (p.base + q)).2 ≠ 0
            · obtain ⟨q, q1, q2⟩ := hq
              exact ih q (by omega) (by omega) q2
            · exact ⟨j, h3, h4, fun q hq' => Classical.byContradiction fun hn => hq ⟨q, hq', hn⟩⟩
        obtain ⟨j, h3, h4⟩ := hex
        obtain ⟨j0, a1, a2, a3⟩ := hwf j j (Nat.le_refl _) h3 h4
        exact .inl ⟨_, a2, In_err s h.fine i p hp h1 h2 h.wf.ps h.drv n0 hf j0 a1 a2 a3⟩
end Go.Abs

namespace Go.Abs
open Go.Proofs
set_option maxRecDepth 100000
set_option linter.unusedSimpArgs false
set_option linter.unusedVariables false

theorem FitR_eq' (l : List Ex) (hl : l.length ≤ 100) (hb : ∀ y ∈ l, UsuP y) (w : Ex) (hw : UsuP w) (k : Int) : bodyW DC 26 [.sl (l.map exV), .agg [.int .i64 w.1, .int .i64 w.2], .int .i64 k] [] = some (fitV l w k, []) := by
  rw [FitR_eq l hl hb w hw k]
  unfold fitV fitN
  by_cases h1 : k < 1
  · rw [if_pos (.inl h1), if_pos (.inl h1)]
  obtain ⟨z1, z2, z3, z4⟩ := hw
  rcases fits hb ⟨z1, z2, z3, z4⟩ (show 0 < k by omega) with ⟨n, f1, f2, f3⟩ | ⟨f1, f2⟩
  · have hk : k ≤ w.2 := by
      obtain ⟨c1, c2, c3⟩ := find_sorted_min (sorted_pair _) f1
      have c2' : roomP l w k n := by simpa using c2
      have h3 := c2'.2.1
      have h4 := c2'.2.2
      omega
    rw [if_neg (by omega), if_neg (by omega), f1, f2, if_neg (by omega)]
  · by_cases h2 : w.2 < k
    · have e2 : (if k < 1 ∨ w.2 < k then none else leastR l w k (posC l w)) = (none : Option Int) := if_pos (.inr h2)
      rw [e2]
      by_cases h3 : 1048576 < k
      · rw [if_pos (.inr h3)]
      · rw [if_neg (by omega), f2, if_pos (by decide)]
    · have e2 : (if k < 1 ∨ w.2 < k then none else leastR l w k (posC l w)) = leastR l w k (posC l w) := if_neg (by omega)
      rw [e2, f1, if_neg (by omega), f2, if_pos (by decide)]

theorem sectorR_eq (t : List UInt8) (ht : t.length ≤ 1000000) (i : Nat) (hi : i ≤ 1000000) : bodyW DC 29 [.str t, .int .i64 i] [] = some (.str (secT t i), []) := by
  obtain ⟨q, hq⟩ : ∃ q, q = min t.length (i * 128) := ⟨_, rfl⟩
  obtain ⟨m, hm⟩ : ∃ m, m = min t.length (q + 128) := ⟨_, rfl⟩
  have k1 : IntKind.i64.wrap (128 * (i : Int)) = 128 * (i : Int) := wrap_id (by omega) (by omega)
  have k2 : min (t.length : Int) (128 * (i : Int)) = (q : Int) := by omega
  have k3 : IntKind.i64.wrap ((q : Int) + 128) = (q : Int) + 128 := wrap_id (by omega) (by omega)
  have k4 : min (t.length : Int) ((q : Int) + 128) = (m : Int) := by omega
  have r1 : q ≤ m := by omega
  have r2 : m ≤ t.length := by omega
  have e : secT t i = (t.take m).drop q := by
    unfold secT
    by_cases h : i * 128 ≤ t.length
    · rw [show min ((i + 1) * 128) t.length = m by omega, show q = i * 128 by omega]
    · rw [List.drop_of_length_le (by rw [List.length_take]; omega), List.drop_of_length_le (by rw [List.length_take]; omega)]
  rw [e]
  (refine gives_iff ?_; refine go_func Tryz.f29 rfl rfl (by simp [Tryz.f29]) ?_; dsimp only [codeL, Tryz.f29, scL, sopsL, guardL, dstAt, loopKey])
  (repeat (first
    | (apply is_ok; (case hw => simp [k1, k2, k3, k4, r1, r2]); (case he => simp [k1, k2, k3, k4, r1, r2]; exact is_rfl))
    | (apply op_no; (case hw => simp [k1, k2, k3, k4, r1, r2]))
    | refine op_nil ?_ | refine next_normal ?_ | refine go_seq ?_ | refine go_region ?_ | refine go_skip ?_ | refine go_block ?_ | refine inb_normal ?_
    | (apply go_yes; (case hc => simp [k1, k2, k3, k4, r1, r2])) | (apply go_no; (case hc => simp [k1, k2, k3, k4, r1, r2]))
    | refine go_exit ?_ | refine next_exit ?_ | refine inb_here ?_ | refine inb_past (by decide) ?_ | refine go_ret ?_ | refine next_ret ?_ | refine inb_ret ?_))
  (apply ends_ok; (case h1 => simp; exact is_rfl); (case h2 => simp; exact is_rfl))
  simp

theorem within08_eq (mem : List Int) (hm : mem.length ≤ 1000000) (a n : Nat) (h : a + n ≤ 2 * mem.length) : bodyW DC 61 [.sl (ints mem), .int .i64 a, .int .i64 n] [] = some (.bool true, []) := by
  have w1 : IntKind.i64.wrap (2 * (mem.length : Int)) = 2 * (mem.length : Int) := wrap_id (by omega) (by omega)
  have w2 : IntKind.i64.wrap (2 * (mem.length : Int) - a) = 2 * (mem.length : Int) - a := wrap_id (by omega) (by omega)
  have c1 : (a : Int) ≤ 2 * (mem.length : Int) := by omega
  have c2 : (n : Int) ≤ 2 * (mem.length : Int) - a := by omega
  (refine gives_iff ?_; refine go_func Tryz.f61 rfl rfl (by simp [Tryz.f61]) ?_; dsimp only [codeL, Tryz.f61, scL, sopsL, guardL, dstAt, loopKey])
  (repeat (first
    | (apply is_ok; (case hw => simp [w1, w2, c1, c2]); (case he => simp [w1, w2, c1, c2]; exact is_rfl))
    | (apply op_no; (case hw => simp [w1, w2, c1, c2]))
    | refine op_nil ?_ | refine next_normal ?_ | refine go_seq ?_ | refine go_region ?_ | refine go_skip ?_ | refine go_block ?_ | refine inb_normal ?_
    | (apply go_yes; (case hc => simp [w1, w2, c1, c2])) | (apply go_no; (case hc => simp [w1, w2, c1, c2]))
    | refine go_exit ?_ | refine next_exit ?_ | refine inb_here ?_ | refine inb_past (by decide) ?_ | refine go_ret ?_ | refine next_ret ?_ | refine inb_ret ?_))
  (apply ends_ok; (case h1 => simp; exact is_rfl); (case h2 => simp; exact is_rfl))
  simp

/-- A byte of a word, as a number. -/
theorem and255 (w : Int) (hw : 0 ≤ w ∧ w ≤ 65535) : intOp .and .i64 w 255 = some (.int .i64 (w % 256)) := by
  obtain ⟨W, rfl⟩ := Int.eq_ofNat_of_zero_le hw.1
  show some (V.int .i64 (IntKind.i64.wrap ((BitVec.ofInt 64 (W : Int) &&& BitVec.ofInt 64 ((255 : Nat) : Int)).toNat : Int))) = _
  rw [BitVec.toNat_and, BitVec.toNat_ofInt, BitVec.toNat_ofInt]
  rw [show ((W : Int) % ((2 ^ 64 : Nat) : Int)).toNat = W by omega, show (((255 : Nat) : Int) % ((2 ^ 64 : Nat) : Int)).toNat = 2 ^ 8 - 1 by decide]
  rw [Nat.and_two_pow_sub_one_eq_mod, i64_small (by omega)]
  congr 2
theorem and_hi (w : Int) (hw : 0 ≤ w ∧ w ≤ 65535) : intOp .and .i64 w 65280 = some (.int .i64 (w - w % 256)) := by
  obtain ⟨W, rfl⟩ := Int.eq_ofNat_of_zero_le hw.1
  show some (V.int .i64 (IntKind.i64.wrap ((BitVec.ofInt 64 (W : Int) &&& BitVec.ofInt 64 ((65280 : Nat) : Int)).toNat : Int))) = _
  rw [BitVec.toNat_and, BitVec.toNat_ofInt, BitVec.toNat_ofInt]
  rw [show ((W : Int) % ((2 ^ 64 : Nat) : Int)).toNat = W by omega, show (((65280 : Nat) : Int) % ((2 ^ 64 : Nat) : Int)).toNat = 65280 by decide]
  have key : W &&& 65280 = 2 ^ 8 * (W / 256) := by
    apply Nat.eq_of_testBit_eq
    intro i
    rw [Nat.testBit_and, show (65280 : Nat) = 2 ^ 8 * (2 ^ 8 - 1) by decide, Nat.testBit_two_pow_mul, Nat.testBit_two_pow_sub_one, Nat.testBit_two_pow_mul, show (256 : Nat) = 2 ^ 8 from rfl, Nat.testBit_div_two_pow]
    by_cases h : 8 ≤ i
    · have e : i - 8 + 8 = i := by omega
      by_cases h2 : i < 16
      · have : i - 8 < 8 := by omega
        simp [h, this, e]
      · have : W.testBit i = false := Nat.testBit_lt_two_pow (Nat.lt_of_lt_of_le (by omega : W < 2 ^ 16) (Nat.pow_le_pow_right (by decide) (by omega)))
        simp [this, e]
    · simp [h]
  rw [key, i64_small (by omega)]
  congr 2
  omega
theorem or_lo (w : Int) (b : UInt8) (hw : 0 ≤ w ∧ w ≤ 65535) : intOp .or .i64 (w - w % 256) (b.toNat : Int) = some (.int .i64 (updB w 0 b)) := (put_lo w b hw).2
theorem or_hi (w : Int) (b : UInt8) (hw : 0 ≤ w ∧ w ≤ 65535) : intOp .or .i64 (w % 256) ((b.toNat : Int) * 256) = some (.int .i64 (updB w 1 b)) := (put_hi w b hw).2

theorem byte08_eq (mem : List Int) (hw : Words mem) (A : Nat) (hA : A < 2 * mem.length) (hm : mem.length ≤ 1000000) : bodyW DC 62 [.sl (ints mem), .int .i64 A] [] = some (.int .i64 ((byteAt mem A).toNat : Int), []) := by
  obtain ⟨w, hwd⟩ : ∃ w, w = A / 2 := ⟨_, rfl⟩
  have q1 : (A : Int).tdiv 2 = (w : Int) := by rw [Int.tdiv_eq_ediv_of_nonneg (by omega)]; omega
  have q3 : IntKind.i64.wrap (w : Int) = (w : Int) := wrap_id (by omega) (by omega)
  have z0 : IntKind.i64.wrap 0 = 0 := rfl
  have z8 : IntKind.i64.wrap 8 = 8 := rfl
  have z9 : IntKind.i64.wrap 255 = 255 := rfl
  have mb : min 8 IntKind.i64.bits = 8 := rfl
  have hwl : w < mem.length := by omega
  have g2 : mem[w]? = some mem[w] := List.getElem?_eq_getElem hwl
  have bw := hw _ (List.getElem_mem hwl)
  have hb : byteAt mem A = UInt8.ofNat (mem[w].fdiv (2 ^ (A % 2 * 8)) % 256).toNat := by
    unfold byteAt
    rw [← hwd, List.getD_eq_getElem?_getD, g2]
    rfl
  rcases Nat.mod_two_eq_zero_or_one A with h0 | h0
  · have q2 : (A : Int).tmod 2 = 0 := by rw [Int.tmod_eq_emod_of_nonneg (by omega)]; omega
    rw [h0] at hb
    have p := and255 mem[w] bw
    have hb2 : mem[w] % 256 = ((byteAt mem A).toNat : Int) := by rw [hb]; simp; omega
    rw [hb2] at p
    generalize ((byteAt mem A).toNat : Int) = r at p
    (refine gives_iff ?_; refine go_func Tryz.f62 rfl rfl (by simp [Tryz.f62]) ?_; dsimp only [codeL, Tryz.f62, scL, sopsL, guardL, dstAt, loopKey])
    (repeat (first
    | (apply is_ok; (case hw => simp [-intOp, p, g2, q1, q2, q3, z0, z8, z9, hwl]); (case he => simp [-intOp, p, g2, q1, q2, q3, z0, z8, z9, hwl]; exact is_rfl))
    | (apply op_no; (case hw => simp [-intOp, p, g2, q1, q2, q3, z0, z8, z9, hwl]))
    | refine op_nil ?_ | refine next_normal ?_ | refine go_seq ?_ | refine go_region ?_ | refine go_skip ?_ | refine go_block ?_ | refine inb_normal ?_
    | (apply go_yes; (case hc => simp [-intOp, p, g2, q1, q2, q3, z0, z8, z9, hwl])) | (apply go_no; (case hc => simp [-intOp, p, g2, q1, q2, q3, z0, z8, z9, hwl]))
    | refine go_exit ?_ | refine next_exit ?_ | refine inb_here ?_ | refine inb_past (by decide) ?_ | refine go_ret ?_ | refine next_ret ?_ | refine inb_ret ?_))
    (apply ends_ok; (case h1 => simp; exact is_rfl); (case h2 => simp; exact is_rfl))
    simp
  · have q2 : (A : Int).tmod 2 = 1 := by rw [Int.tmod_eq_emod_of_nonneg (by omega)]; omega
    rw [h0] at hb
    have fd : mem[w].fdiv 256 = mem[w] / 256 := Int.fdiv_eq_ediv_of_nonneg _ (by decide)
    have k0 : IntKind.i64.wrap (mem[w].fdiv 256) = mem[w] / 256 := by rw [fd]; exact wrap_id (by omega) (by omega)
    have p := and255 (mem[w] / 256) ⟨by omega, by omega⟩
    have hb2 : mem[w] / 256 % 256 = ((byteAt mem A).toNat : Int) := by rw [hb]; simp [fd]; omega
    rw [hb2] at p
    generalize ((byteAt mem A).toNat : Int) = r at p
    (refine gives_iff ?_; refine go_func Tryz.f62 rfl rfl (by simp [Tryz.f62]) ?_; dsimp only [codeL, Tryz.f62, scL, sopsL, guardL, dstAt, loopKey])
    (repeat (first
    | (apply is_ok; (case hw => simp [-intOp, p, g2, q1, q2, q3, z0, z8, z9, hwl, shiftOp, mb, fd, k0]); (case he => simp [-intOp, p, g2, q1, q2, q3, z0, z8, z9, hwl, shiftOp, mb, fd, k0]; exact is_rfl))
    | (apply op_no; (case hw => simp [-intOp, p, g2, q1, q2, q3, z0, z8, z9, hwl, shiftOp, mb, fd, k0]))
    | refine op_nil ?_ | refine next_normal ?_ | refine go_seq ?_ | refine go_region ?_ | refine go_skip ?_ | refine go_block ?_ | refine inb_normal ?_
    | (apply go_yes; (case hc => simp [-intOp, p, g2, q1, q2, q3, z0, z8, z9, hwl, shiftOp, mb, fd, k0])) | (apply go_no; (case hc => simp [-intOp, p, g2, q1, q2, q3, z0, z8, z9, hwl, shiftOp, mb, fd, k0]))
    | refine go_exit ?_ | refine next_exit ?_ | refine inb_here ?_ | refine inb_past (by decide) ?_ | refine go_ret ?_ | refine next_ret ?_ | refine inb_ret ?_))
    (apply ends_ok; (case h1 => simp; exact is_rfl); (case h2 => simp; exact is_rfl))
    simp

theorem set08_eq (mem : List Int) (hw : Words mem) (A : Nat) (hA : A < 2 * mem.length) (hm : mem.length ≤ 1000000) (v : UInt8) : bodyW DC 69 [.own 0 mem.length 0 mem.length, .int .i64 A, .int .i64 (v.toNat : Int)] [.dat true 1 (ints mem)] = some (.tuple [], [.dat true 1 (ints (setByte mem A v))]) := by
  obtain ⟨w, hwd⟩ : ∃ w, w = A / 2 := ⟨_, rfl⟩
  have q1 : (A : Int).tdiv 2 = (w : Int) := by rw [Int.tdiv_eq_ediv_of_nonneg (by omega)]; omega
  have q3 : IntKind.i64.wrap (w : Int) = (w : Int) := wrap_id (by omega) (by omega)
  have z0 : IntKind.i64.wrap 0 = 0 := rfl
  have z8 : IntKind.i64.wrap 8 = 8 := rfl
  have z9 : IntKind.i64.wrap 255 = 255 := rfl
  have za : IntKind.i64.wrap 65280 = 65280 := rfl
  have mb : min 8 IntKind.i64.bits = 8 := rfl
  have hwl : w < mem.length := by omega
  have g2 : mem[w]? = some mem[w] := List.getElem?_eq_getElem hwl
  have bw := hw _ (List.getElem_mem hwl)
  have hst : setByte mem A v = mem.set w (updB mem[w] (A % 2) v) := by
    rw [setByte, ← hwd, List.getD_eq_getElem?_getD, g2]
    rfl
  have vb := v.toNat_lt
  have k2 : IntKind.i64.wrap ((v.toNat : Int) * 256) = (v.toNat : Int) * 256 := wrap_id (by omega) (by omega)
  rw [hst]
  rcases Nat.mod_two_eq_zero_or_one A with h0 | h0
  · have q2 : (A : Int).tmod 2 = 0 := by rw [Int.tmod_eq_emod_of_nonneg (by omega)]; omega
    rw [h0]
    have p := and_hi mem[w] bw
    have p2 := or_lo mem[w] v bw
    (refine gives_iff ?_; refine go_func Tryz.f69 rfl rfl (by simp [Tryz.f69]) ?_; dsimp only [codeL, Tryz.f69, scL, sopsL, guardL, dstAt, loopKey])
    (repeat (first
    | (apply is_ok; (case hw => simp [-intOp, p, p2, g2, q1, q2, q3, z0, z8, z9, za, hwl]); (case he => simp [-intOp, p, p2, g2, q1, q2, q3, z0, z8, z9, za, hwl]; exact is_rfl))
    | (apply op_no; (case hw => simp [-intOp, p, p2, g2, q1, q2, q3, z0, z8, z9, za, hwl]))
    | refine op_nil ?_ | refine next_normal ?_ | refine go_seq ?_ | refine go_region ?_ | refine go_skip ?_ | refine go_block ?_ | refine inb_normal ?_
    | (apply go_yes; (case hc => simp [-intOp, p, p2, g2, q1, q2, q3, z0, z8, z9, za, hwl])) | (apply go_no; (case hc => simp [-intOp, p, p2, g2, q1, q2, q3, z0, z8, z9, za, hwl]))
    | refine go_exit ?_ | refine next_exit ?_ | refine inb_here ?_ | refine inb_past (by decide) ?_ | refine go_ret ?_ | refine next_ret ?_ | refine inb_ret ?_))
    (apply ends_ok; (case h1 => simp; exact is_rfl); (case h2 => simp; exact is_rfl))
    simp [List.map_set]
  · have q2 : (A : Int).tmod 2 = 1 := by rw [Int.tmod_eq_emod_of_nonneg (by omega)]; omega
    rw [h0]
    have p := and255 mem[w] bw
    have p2 := or_hi mem[w] v bw
    (refine gives_iff ?_; refine go_func Tryz.f69 rfl rfl (by simp [Tryz.f69]) ?_; dsimp only [codeL, Tryz.f69, scL, sopsL, guardL, dstAt, loopKey])
    (repeat (first
    | (apply is_ok; (case hw => simp [-intOp, p, p2, g2, q1, q2, q3, z0, z8, z9, hwl, shiftOp, mb, k2]); (case he => simp [-intOp, p, p2, g2, q1, q2, q3, z0, z8, z9, hwl, shiftOp, mb, k2]; exact is_rfl))
    | (apply op_no; (case hw => simp [-intOp, p, p2, g2, q1, q2, q3, z0, z8, z9, hwl, shiftOp, mb, k2]))
    | refine op_nil ?_ | refine next_normal ?_ | refine go_seq ?_ | refine go_region ?_ | refine go_skip ?_ | refine go_block ?_ | refine inb_normal ?_
    | (apply go_yes; (case hc => simp [-intOp, p, p2, g2, q1, q2, q3, z0, z8, z9, hwl, shiftOp, mb, k2])) | (apply go_no; (case hc => simp [-intOp, p, p2, g2, q1, q2, q3, z0, z8, z9, hwl, shiftOp, mb, k2]))
    | refine go_exit ?_ | refine next_exit ?_ | refine inb_here ?_ | refine inb_past (by decide) ?_ | refine go_ret ?_ | refine next_ret ?_ | refine inb_ret ?_))
    (apply ends_ok; (case h1 => simp; exact is_rfl); (case h2 => simp; exact is_rfl))
    simp [List.map_set]

theorem bytes08_eq (mem : List Int) (hw : Words mem) (hm : mem.length ≤ 1000000) (a n : Nat) (h : a + n ≤ 2 * mem.length) : bodyW DC 27 [.sl (ints mem), .int .i64 a, .int .i64 n] [] = some (.tuple [.str (bytesL mem a n), .int .i64 0], []) := by
  have v1 := within08_eq mem hm a n h
  (refine gives_iff ?_; refine go_func Tryz.f27 rfl rfl (by simp [Tryz.f27]) ?_; dsimp only [codeL, Tryz.f27, scL, sopsL, guardL, dstAt, loopKey])
  (repeat (first
    | (apply is_ok; (case hw => simp [v1]); (case he => simp [v1]; exact is_rfl))
    | (apply op_no; (case hw => simp [v1]))
    | refine op_nil ?_ | refine next_normal ?_ | refine go_seq ?_ | refine go_region ?_ | refine go_skip ?_ | refine go_block ?_ | refine inb_normal ?_
    | (apply go_yes; (case hc => simp [v1])) | (apply go_no; (case hc => simp [v1]))
    | refine go_exit ?_ | refine next_exit ?_ | refine inb_here ?_ | refine inb_past (by decide) ?_ | refine go_ret ?_ | refine next_ret ?_ | refine inb_ret ?_))
  refine go_count n (fun i => [(0, .sl (ints mem)), (1, .int .i64 a), (2, .int .i64 n), (8, .own 0 i 0 i), (9, .int .i64 i)]) (fun i => [.dat true 1 (u8s (bytesL mem a i))]) (fun _ => True) (by simp [bytesL, u8s]) trivial fun i hi _ => ?_
  by_cases hlt : i < n
  · have g1 : (i : Int) < n := by omega
    have w1 : IntKind.i64.wrap ((i : Int) + 1) = (i : Int) + 1 := wrap_id (by omega) (by omega)
    obtain ⟨A, hA⟩ : ∃ A, A = a + i := ⟨_, rfl⟩
    have w2 : IntKind.i64.wrap ((a : Int) + i) = (A : Int) := by rw [hA, wrap_id (by omega) (by omega)]; omega
    have v := byte08_eq mem hw A (by omega) hm
    have hs := bytesL_succ mem a i
    rw [← hA] at hs
    generalize byteAt mem A = b at v hs
    have k1 : IntKind.u8.wrap (b.toNat : Int) = (b.toNat : Int) := by
      have := b.toNat_lt
      have e : IntKind.u8.wrap (b.toNat : Int) = (b.toNat : Int) % 256 := by simp [IntKind.wrap, IntKind.bits, IntKind.signed]
      rw [e]; omega
    have r1 : i + 1 ≤ room := by unfold room; omega
    (repeat (first
    | (apply is_ok; (case hw => simp [g1, w1, w2, v, k1, r1]); (case he => simp [g1, w1, w2, v, k1, r1]; exact is_rfl))
    | (apply op_no; (case hw => simp [g1, w1, w2, v, k1, r1]))
    | refine op_nil ?_ | refine next_normal ?_ | refine go_seq ?_ | refine go_region ?_ | refine go_skip ?_ | refine go_block ?_ | refine inb_normal ?_
    | (apply go_yes; (case hc => simp [g1, w1, w2, v, k1, r1])) | (apply go_no; (case hc => simp [g1, w1, w2, v, k1, r1]))
    | refine go_exit ?_ | refine next_exit ?_ | refine inb_here ?_ | refine inb_past (by decide) ?_ | refine go_ret ?_ | refine next_ret ?_ | refine inb_ret ?_))
    exact ⟨hlt, by simp [w1, hs, u8s_append, u8s], trivial⟩
  · have : i = n := by omega
    subst this
    (repeat (first
    | (apply is_ok; (case hw => simp); (case he => simp; exact is_rfl))
    | (apply op_no; (case hw => simp))
    | refine op_nil ?_ | refine next_normal ?_ | refine go_seq ?_ | refine go_region ?_ | refine go_skip ?_ | refine go_block ?_ | refine inb_normal ?_
    | (apply go_yes; (case hc => simp)) | (apply go_no; (case hc => simp))
    | refine go_exit ?_ | refine next_exit ?_ | refine inb_here ?_ | refine inb_past (by decide) ?_ | refine go_ret ?_ | refine next_ret ?_ | refine inb_ret ?_))
    (apply ends_ok; (case h1 => simp; exact is_rfl); (case h2 => simp; exact is_rfl))
    simp
end Go.Abs

namespace Go.Abs
open Go.Proofs
set_option maxRecDepth 100000
set_option linter.unusedSimpArgs false
set_option linter.unusedVariables false

@[simp high] theorem pr_set_all (p : Pr) (xs : List V) (h : xs.length = 29) : setSub (.agg xs) 0 (.agg p.cells) = some (.agg p.cells) := setSub_all (by rw [p.cells_len, h])
@[simp high] theorem pr_set_swd (p : Pr) (v : Bool) : setSub (.agg p.cells) 15 (.bool v) = some (.agg (Pr.cells { p with swd := v })) := by
  rw [p.cells_swd, Pr.cells_swd { p with swd := v }]; exact setSub_one p.pre_swd rfl
@[simp high] theorem pr_set_base (p : Pr) (v : Int) : setSub (.agg p.cells) 13 (.int .i64 v) = some (.agg (Pr.cells { p with base := v })) := by
  rw [p.cells_base, Pr.cells_base { p with base := v }]; exact setSub_one p.pre_base rfl
@[simp high] theorem w_set_pr {s : Sys} {i : Nat} {p : Pr} {m b S B : V} (h : s.ps[i]? = some p) (q : Pr) : setSub (.agg (s.cw m b S B)) (110 + i * 29) (.agg q.cells) = some (.agg ((s.setP i q).cw m b S B)) := by
  obtain ⟨h1, h2⟩ := prsC_at h
  have hi := (List.getElem?_eq_some_iff.1 h).1
  have e1 : (s.cw m b S B) = (s.w_p110 m b S B ++ prsC (s.ps.take i)) ++ (p.cells ++ (prsC (s.ps.drop (i + 1)) ++ (s.c3.l ++ s.tail1))) := by rw [s.w_at110 m b S B, h1]; simp
  rw [e1, w_setP hi]
  exact setSub_agg (by simp [s.w_p110_len, h2]) (by rw [q.cells_len, p.cells_len])

theorem swd_other {s : Sys} {i : Nat} {p : Pr} {f : Bool} (hp : s.ps[i]? = some p) (h1 : hasP p) (h : imgB s.ps i f = false) : p.swd = !f := by
  cases hc : p.swd == f with
  | true =>
    have := imgB_iff.2 ⟨i, p, rfl, hp, h1, by simpa using hc⟩
    rw [h] at this
    cases this
  | false => revert hc; cases p.swd <;> cases f <;> simp

theorem OutR_no (s : Sys) (k : Int) (h : imgB s.ps k false = false) : bodyW DC 7 [.agg s.cells, .int .i64 k] [] = some (.tuple [.agg zN, .int .i64 1], []) := by
  have hps := s.hps
  rw [s.cells_cw]
  by_cases h0 : k < 0
  · (refine gives_iff ?_; refine go_func Tryz.f7 rfl rfl (by simp [Tryz.f7]) ?_; dsimp only [codeL, Tryz.f7, scL, sopsL, guardL, dstAt, loopKey])
    (repeat (first
    | (apply is_ok; (case hw => simp [h0]); (case he => simp [h0]; exact is_rfl))
    | (apply op_no; (case hw => simp [h0]))
    | refine op_nil ?_ | refine next_normal ?_ | refine go_seq ?_ | refine go_region ?_ | refine go_skip ?_ | refine go_block ?_ | refine inb_normal ?_
    | (apply go_yes; (case hc => simp [h0])) | (apply go_no; (case hc => simp [h0]))
    | refine go_exit ?_ | refine next_exit ?_ | refine inb_here ?_ | refine inb_past (by decide) ?_ | refine go_ret ?_ | refine next_ret ?_ | refine inb_ret ?_))
    (apply ends_ok; (case h1 => simp; exact is_rfl); (case h2 => simp; exact is_rfl))
    simp
  by_cases h1 : 8 ≤ k
  · (refine gives_iff ?_; refine go_func Tryz.f7 rfl rfl (by simp [Tryz.f7]) ?_; dsimp only [codeL, Tryz.f7, scL, sopsL, guardL, dstAt, loopKey])
    (repeat (first
    | (apply is_ok; (case hw => simp [h0, h1]); (case he => simp [h0, h1]; exact is_rfl))
    | (apply op_no; (case hw => simp [h0, h1]))
    | refine op_nil ?_ | refine next_normal ?_ | refine go_seq ?_ | refine go_region ?_ | refine go_skip ?_ | refine go_block ?_ | refine inb_normal ?_
    | (apply go_yes; (case hc => simp [h0, h1])) | (apply go_no; (case hc => simp [h0, h1]))
    | refine go_exit ?_ | refine next_exit ?_ | refine inb_here ?_ | refine inb_past (by decide) ?_ | refine go_ret ?_ | refine next_ret ?_ | refine inb_ret ?_))
    (apply ends_ok; (case h1 => simp; exact is_rfl); (case h2 => simp; exact is_rfl))
    simp
  obtain ⟨i, rfl⟩ := Int.eq_ofNat_of_zero_le (by omega : 0 ≤ k)
  have hi : i < s.ps.length := by omega
  have g2 : s.ps[i]? = some s.ps[i] := List.getElem?_eq_getElem hi
  have g3 : i < 8 := by omega
  have g4 : ¬ 8 ≤ (i : Int) := by omega
  have g7 : ¬ 8 ≤ i := by omega
  have g8 : ¬ (i : Int) < 0 := by omega
  have v := hasR_eq s.ps[i]
  by_cases c1 : hasP s.ps[i]
  · rw [decide_eq_true c1] at v
    have c2 : s.ps[i].swd = true := swd_other g2 c1 h
    (refine gives_iff ?_; refine go_func Tryz.f7 rfl rfl (by simp [Tryz.f7]) ?_; dsimp only [codeL, Tryz.f7, scL, sopsL, guardL, dstAt, loopKey])
    (repeat (first
    | (apply is_ok; (case hw => simp [h0, g4, g7, g8, g2, g3, v, c2]); (case he => simp [h0, g4, g7, g8, g2, g3, v, c2]; exact is_rfl))
    | (apply op_no; (case hw => simp [h0, g4, g7, g8, g2, g3, v, c2]))
    | refine op_nil ?_ | refine next_normal ?_ | refine go_seq ?_ | refine go_region ?_ | refine go_skip ?_ | refine go_block ?_ | refine inb_normal ?_
    | (apply go_yes; (case hc => simp [h0, g4, g7, g8, g2, g3, v, c2])) | (apply go_no; (case hc => simp [h0, g4, g7, g8, g2, g3, v, c2]))
    | refine go_exit ?_ | refine next_exit ?_ | refine inb_here ?_ | refine inb_past (by decide) ?_ | refine go_ret ?_ | refine next_ret ?_ | refine inb_ret ?_))
    (apply ends_ok; (case h1 => simp; exact is_rfl); (case h2 => simp; exact is_rfl))
    simp
  · rw [decide_eq_false c1] at v
    (refine gives_iff ?_; refine go_func Tryz.f7 rfl rfl (by simp [Tryz.f7]) ?_; dsimp only [codeL, Tryz.f7, scL, sopsL, guardL, dstAt, loopKey])
    (repeat (first
    | (apply is_ok; (case hw => simp [h0, g4, g7, g8, g2, g3, v]); (case he => simp [h0, g4, g7, g8, g2, g3, v]; exact is_rfl))
    | (apply op_no; (case hw => simp [h0, g4, g7, g8, g2, g3, v]))
    | refine op_nil ?_ | refine next_normal ?_ | refine go_seq ?_ | refine go_region ?_ | refine go_skip ?_ | refine go_block ?_ | refine inb_normal ?_
    | (apply go_yes; (case hc => simp [h0, g4, g7, g8, g2, g3, v])) | (apply go_no; (case hc => simp [h0, g4, g7, g8, g2, g3, v]))
    | refine go_exit ?_ | refine next_exit ?_ | refine inb_here ?_ | refine inb_past (by decide) ?_ | refine go_ret ?_ | refine next_ret ?_ | refine inb_ret ?_))
    (apply ends_ok; (case h1 => simp; exact is_rfl); (case h2 => simp; exact is_rfl))
    simp

theorem OutR_full (s : Sys) (hs : Fine s) (i : Nat) (p : Pr) (hp : s.ps[i]? = some p) (h1 : hasP p) (h2 : p.swd = false) (hw : ∀ q ∈ s.ps, q.Wf) (hf : fitN (swpL s.ps) s.sw (secN p.blk) = none) : bodyW DC 7 [.agg s.cells, .int .i64 i] [] = some (.tuple [.agg zN, .int .i64 12], []) := by
  have hps := s.hps
  have hpm := List.mem_of_getElem? hp
  have hi := (List.getElem?_eq_some_iff.1 hp).1
  have g1 : i < 8 := by omega
  have g4 : ¬ 8 ≤ (i : Int) := by omega
  have g7 : ¬ 8 ≤ i := by omega
  have g8 : ¬ (i : Int) < 0 := by omega
  have v1 := hasR_eq p
  rw [decide_eq_true h1] at v1
  have l2 := swpL_len s.ps
  have v2 := SectorsR_eq p.blk (hw p hpm).2.2
  have v3 := SwappedR_eq s fun q hq => (hw q hq).2.2
  have v4 := FitR_eq' (swpL s.ps) (by omega) (fun y hy => mem_swp hs.right.2.2.2.2 hy) s.sw hs.right.2.1 (secN p.blk)
  unfold fitV at v4
  rw [hf] at v4
  rw [s.cells_cw]
  (refine gives_iff ?_; refine go_func Tryz.f7 rfl rfl (by simp [Tryz.f7]) ?_; dsimp only [codeL, Tryz.f7, scL, sopsL, guardL, dstAt, loopKey])
  (repeat (first
    | (apply is_ok; (case hw => simp [v1, v2, v3, v4, g1, g4, g7, g8, hp, h2, exV]); (case he => simp [v1, v2, v3, v4, g1, g4, g7, g8, hp, h2, exV]; exact is_rfl))
    | (apply op_no; (case hw => simp [v1, v2, v3, v4, g1, g4, g7, g8, hp, h2, exV]))
    | refine op_nil ?_ | refine next_normal ?_ | refine go_seq ?_ | refine go_region ?_ | refine go_skip ?_ | refine go_block ?_ | refine inb_normal ?_
    | (apply go_yes; (case hc => simp [v1, v2, v3, v4, g1, g4, g7, g8, hp, h2, exV])) | (apply go_no; (case hc => simp [v1, v2, v3, v4, g1, g4, g7, g8, hp, h2, exV]))
    | refine go_exit ?_ | refine next_exit ?_ | refine inb_here ?_ | refine inb_past (by decide) ?_ | refine go_ret ?_ | refine next_ret ?_ | refine inb_ret ?_))
  (apply ends_ok; (case h1 => simp; exact is_rfl); (case h2 => simp; exact is_rfl))
  simp

set_option maxHeartbeats 4000000 in
theorem OutR_walk (s : Sys) (hs : Fine s) (i : Nat) (p : Pr) (hp : s.ps[i]? = some p) (h1 : hasP p) (h2 : p.swd = false) (hw : ∀ q ∈ s.ps, q.Wf) (n0 : Int) (hf : fitN (swpL s.ps) s.sw (secN p.blk) = some n0) (hn : 0 ≤ n0 ∧ n0 ≤ 4000000) : bodyW DC 7 [.agg s.cells, .int .i64 i] [] =
    if (outR s p n0).2.2 = 0 then some (.tuple [.agg ((s.setP i { p with base := n0, swd := true }).cw (.sl (ints s.mem)) (.sl (ints s.bad)) (.own 0 s.S.length 0 s.S.length) (.sl (ints s.B))), .int .i64 0], [.dat true 1 (strs (outR s p n0).1)])
    else some (.tuple [.agg zN, .int .i64 (outR s p n0).2.2], []) := by
  have hps := s.hps
  have hpm := List.mem_of_getElem? hp
  have hi := (List.getElem?_eq_some_iff.1 hp).1
  have g1 : i < 8 := by omega
  have g4 : ¬ 8 ≤ (i : Int) := by omega
  have g7 : ¬ 8 ≤ i := by omega
  have g8 : ¬ (i : Int) < 0 := by omega
  have v1 := hasR_eq p
  rw [decide_eq_true h1] at v1
  have l2 := swpL_len s.ps
  have v2 := SectorsR_eq p.blk (hw p hpm).2.2
  have v3 := SwappedR_eq s fun q hq => (hw q hq).2.2
  have v4 := FitR_eq' (swpL s.ps) (by omega) (fun y hy => mem_swp hs.right.2.2.2.2 hy) s.sw hs.right.2.1 (secN p.blk)
  unfold fitV at v4
  rw [hf] at v4
  obtain ⟨c1, c2, c3, c4, c5, c6⟩ := core_in hs hpm h1 h2
  obtain ⟨s1, s2, s3⟩ := secN_bound c4 c5
  have hm := hs.mem
  obtain ⟨ba, hba⟩ := Int.eq_ofNat_of_zero_le c2
  obtain ⟨bl, hbl⟩ := Int.eq_ofNat_of_zero_le (by omega : 0 ≤ p.blk)
  obtain ⟨n, hn2⟩ := Int.eq_ofNat_of_zero_le (by omega : 0 ≤ secN p.blk)
  have v5 := bytes08_eq s.mem hs.words (by omega) (ba * 64) (bl * 64) (by omega)
  have hR : outR s p n0 = applyS s.B (-1) s.S 0 (outW (bytesL s.mem (ba * 64) (bl * 64)) n0 n) := by
    unfold outR
    rw [hn2, hba, hbl]
    rfl
  generalize outR s p n0 = R at hR ⊢
  generalize ht : bytesL s.mem (ba * 64) (bl * 64) = t at v5 hR
  have htl : t.length = bl * 64 := by rw [← ht]; simp
  have hnb : (n : Int) = (bl : Int) / 2 + (bl : Int) % 2 := by rw [← hn2, s3, hbl]
  have hn48 : n ≤ 1048576 := by omega
  have hb48 : bl ≤ 1048576 := by omega
  have w1 : IntKind.i64.wrap (64 * (ba : Int)) = ((ba * 64 : Nat) : Int) := by rw [wrap_id (by omega) (by omega)]; omega
  have w2 : IntKind.i64.wrap (64 * (bl : Int)) = ((bl * 64 : Nat) : Int) := by rw [wrap_id (by omega) (by omega)]; omega
  push_cast at v5 w1 w2
  have hn1 : 0 < n := by omega
  rw [hn2] at v2 v4
  rw [hbl] at v2
  rw [s.cells_cw]
  have hBm : s.B.length ≤ maxLen := by have := hs.B; unfold maxLen; omega
  have hSm : s.S.length ≤ 1000000 := by have := hs.S; omega
  have hlen : (outW t n0 n).length = n := outW_len t n0 n
  have hget : ∀ j (h : j < n), (outW t n0 n)[j]'(by rw [hlen]; exact h) = (n0 + (j : Int), secT t j) := fun j h => by simp [outW]
  suffices key : ∀ r H', (if R.2.2 = 0 then some (V.tuple [.agg ((s.setP i { p with base := n0, swd := true }).cw (.sl (ints s.mem)) (.sl (ints s.bad)) (.own 0 s.S.length 0 s.S.length) (.sl (ints s.B))), .int .i64 0], [Blk.dat true 1 (strs R.1)])
      else some (V.tuple [.agg zN, .int .i64 R.2.2], [])) = some (r, H') → bodyW DC 7 [.agg (s.cw (.sl (ints s.mem)) (.sl (ints s.bad)) (.sl (strs s.S)) (.sl (ints s.B))), .int .i64 i] [] = some (r, H') by
    by_cases hz : R.2.2 = 0
    · rw [if_pos hz] at key ⊢
      exact key _ _ rfl
    · rw [if_neg hz] at key ⊢
      exact key _ _ rfl
  intro r H' hr
  (refine gives_iff ?_; refine go_func Tryz.f7 rfl rfl (by simp [Tryz.f7]) ?_; dsimp only [codeL, Tryz.f7, scL, sopsL, guardL, dstAt, loopKey])
  (repeat (first
    | (apply is_ok; (case hw => simp [v1, v2, v3, v4, v5, w1, w2, g1, g4, g7, g8, hp, h2, exV, hba, hbl]); (case he => simp [v1, v2, v3, v4, v5, w1, w2, g1, g4, g7, g8, hp, h2, exV, hba, hbl]; exact is_rfl))
    | (apply op_no; (case hw => simp [v1, v2, v3, v4, v5, w1, w2, g1, g4, g7, g8, hp, h2, exV, hba, hbl]))
    | refine op_nil ?_ | refine next_normal ?_ | refine go_seq ?_ | refine go_region ?_ | refine go_skip ?_ | refine go_block ?_ | refine inb_normal ?_
    | (apply go_yes; (case hc => simp [v1, v2, v3, v4, v5, w1, w2, g1, g4, g7, g8, hp, h2, exV, hba, hbl])) | (apply go_no; (case hc => simp [v1, v2, v3, v4, v5, w1, w2, g1, g4, g7, g8, hp, h2, exV, hba, hbl]))
    | refine go_exit ?_ | refine next_exit ?_ | refine inb_here ?_ | refine inb_past (by decide) ?_ | refine go_ret ?_ | refine next_ret ?_ | refine inb_ret ?_))
  refine go_while (σ := Nat × List (List UInt8)) (fun c => match c.1 with
      | 0 => [(1, .int .i64 i), (2, .ptr 0 1 0 0), (4, .ptr 1 1 0 0), (6, .ptr 9 1 0 0), (7, .int .i64 n), (8, .int .i64 n0), (10, .str t), (12, .ptr 10 1 0 0), (13, .int .i64 0)]
      | j + 1 => [(1, .int .i64 i), (2, .ptr 0 1 0 0), (4, .ptr 1 1 0 0), (6, .ptr 9 1 0 0), (7, .int .i64 n), (8, .int .i64 n0), (10, .str t), (12, .ptr 10 1 0 0), (13, .int .i64 ((j + 1 : Nat) : Int))])
    (fun c => match c.1 with
      | 0 => [.box (.agg (s.cw (.sl (ints s.mem)) (.sl (ints s.bad)) (.sl (strs s.S)) (.sl (ints s.B)))), .box (.agg (zO (.own 2 0 0 0) (.own 3 0 0 0) (.own 4 0 0 0) (.own 5 0 0 0) (.own 6 0 0 0) (.own 7 0 0 0) (.own 8 0 0 0))), .dat true 1 [], .dat true 1 [], .dat true 9 [], .dat true 1 [], .dat true 1 [], .dat true 1 [], .dat true 4 [], .box (.agg p.cells), .box (drv s.S s.B)]
      | _ + 1 => [.box (.agg (s.cw (.sl (ints s.mem)) (.sl (ints s.bad)) (.sl (strs s.S)) (.sl (ints s.B)))), .box (.agg (zO (.own 2 0 0 0) (.own 3 0 0 0) (.own 4 0 0 0) (.own 5 0 0 0) (.own 6 0 0 0) (.own 7 0 0 0) (.own 8 0 0 0))), .dat true 1 [], .dat true 1 [], .dat true 9 [], .dat true 1 [], .dat true 1 [], .dat true 1 [], .dat true 4 [], .box (.agg p.cells), .box (.agg [.own 11 s.S.length 0 s.S.length, .sl (ints s.B)]), .dat true 1 (strs c.2)])
    (fun c => c.1 ≤ n ∧ c.2.length = s.S.length ∧ (c.1 = 0 → c.2 = s.S) ∧ applyS s.B (-1) c.2 c.1 ((outW t n0 n).drop c.1) = R) (fun c => n - c.1) (0, s.S) (by simp) (by simpa using hR.symm) fun ⟨j, T⟩ ⟨hj, hT, h0, hA⟩ => ?_
  simp only at hj hT h0 hA ⊢
  have k2 : IntKind.i64.wrap ((j : Int) + 1) = (j : Int) + 1 := wrap_id (by omega) (by omega)
  have k5 : IntKind.i64.wrap (n0 + (j : Int)) = n0 + (j : Int) := wrap_id (by omega) (by omega)
  have g5 : ∀ q : Pr, (s.ps.set i q)[i]? = some q := fun q => by rw [List.getElem?_set_self hi]
  have g6 : ∀ q : Pr, (s.setP i q).ps[i]? = some q := g5
  cases hE : s.B.isEmpty
  all_goals
    rcases j with _ | j
    · have := h0 rfl
      subst this
      have v6 := sectorR_eq t (by omega) 0 (by omega)
      rw [List.drop_eq_getElem_cons (by rw [hlen]; exact hn1), hget 0 hn1, applyS, if_neg (by decide)] at hA
      by_cases hz : faultI s.S.length s.B (n0 + ((0 : Nat) : Int), secT t 0) = 0
      · rw [if_pos hz] at hA
        have hW := WriteR_ok s.S s.B hSm hBm _ hz
        have hn1' : (0 : Int) < n := by omega
        simp only [Int.natCast_zero, Int.add_zero] at hW hA v6 k5 hz
        (repeat (first
    | (apply is_ok; (case hw => simp [hn1, hn1', v6, hW, hE, k5]); (case he => simp [hn1, hn1', v6, hW, hE, k5]; exact is_rfl))
    | (apply op_no; (case hw => simp [hn1, hn1', v6, hW, hE, k5]))
    | refine op_nil ?_ | refine next_normal ?_ | refine go_seq ?_ | refine go_region ?_ | refine go_skip ?_ | refine go_block ?_ | refine inb_normal ?_
    | (apply go_yes; (case hc => simp [hn1, hn1', v6, hW, hE, k5])) | (apply go_no; (case hc => simp [hn1, hn1', v6, hW, hE, k5]))
    | refine go_exit ?_ | refine next_exit ?_ | refine inb_here ?_ | refine inb_past (by decide) ?_ | refine go_ret ?_ | refine next_ret ?_ | refine inb_ret ?_))
        exact ⟨(1, putS s.S (n0, secT t 0)), by simp [putS, hE, show IntKind.i64.wrap 1 = 1 from rfl], by show n - 1 < n - 0; omega, by show 1 ≤ n; omega, putS_length, by simp, hA⟩
      · rw [if_neg hz] at hA
        have hW := WriteR_no s.S s.B hBm _ hz
        have hn1' : (0 : Int) < n := by omega
        simp only [Int.natCast_zero, Int.add_zero] at hW hA v6 k5 hz
        subst hA
        simp only [hz, if_false] at hr
        cases hr
        (repeat (first
    | (apply is_ok; (case hw => simp [hn1, hn1', v6, hW, hE, k5, hz]); (case he => simp [hn1, hn1', v6, hW, hE, k5, hz]; exact is_rfl))
    | (apply op_no; (case hw => simp [hn1, hn1', v6, hW, hE, k5, hz]))
    | refine op_nil ?_ | refine next_normal ?_ | refine go_seq ?_ | refine go_region ?_ | refine go_skip ?_ | refine go_block ?_ | refine inb_normal ?_
    | (apply go_yes; (case hc => simp [hn1, hn1', v6, hW, hE, k5, hz])) | (apply go_no; (case hc => simp [hn1, hn1', v6, hW, hE, k5, hz]))
    | refine go_exit ?_ | refine next_exit ?_ | refine inb_here ?_ | refine inb_past (by decide) ?_ | refine go_ret ?_ | refine next_ret ?_ | refine inb_ret ?_))
        (apply ends_ok; (case h1 => simp; exact is_rfl); (case h2 => simp; exact is_rfl))
        simp
    · clear h0
      dsimp only
      have hk0 : j + 1 ≠ 0 := by omega
      generalize hk : j + 1 = k at *
      by_cases hlt : k < n
      · have g0 : (k : Int) < n := by omega
        have v6 := sectorR_eq t (by omega) k (by omega)
        rw [List.drop_eq_getElem_cons (by rw [hlen]; exact hlt), hget k hlt, applyS, if_neg (by omega)] at hA
        by_cases hz : faultI T.length s.B (n0 + (k : Int), secT t k) = 0
        · rw [if_pos hz] at hA
          have hW := WriteR_ok T s.B (by omega) hBm _ hz
          rw [hT] at hW
          (repeat (first
    | (apply is_ok; (case hw => simp [g0, hlt, v6, hW, hE, k2, k5, hT]); (case he => simp [g0, hlt, v6, hW, hE, k2, k5, hT]; exact is_rfl))
    | (apply op_no; (case hw => simp [g0, hlt, v6, hW, hE, k2, k5, hT]))
    | refine op_nil ?_ | refine next_normal ?_ | refine go_seq ?_ | refine go_region ?_ | refine go_skip ?_ | refine go_block ?_ | refine inb_normal ?_
    | (apply go_yes; (case hc => simp [g0, hlt, v6, hW, hE, k2, k5, hT])) | (apply go_no; (case hc => simp [g0, hlt, v6, hW, hE, k2, k5, hT]))
    | refine go_exit ?_ | refine next_exit ?_ | refine inb_here ?_ | refine inb_past (by decide) ?_ | refine go_ret ?_ | refine next_ret ?_ | refine inb_ret ?_))
          exact ⟨(k + 1, putS T (n0 + (k : Int), secT t k)), by simp [putS, hE, k2, hT], by show n - (k + 1) < n - k; omega, by show k + 1 ≤ n; omega, by rw [putS_length]; exact hT, by simp, hA⟩
        · rw [if_neg hz] at hA
          have hW := WriteR_no T s.B hBm _ hz
          subst hA
          simp only [hz, if_false] at hr
          cases hr
          rw [hT] at hW hz
          (repeat (first
    | (apply is_ok; (case hw => simp [g0, hlt, v6, hW, hE, k2, k5, hz, hT]); (case he => simp [g0, hlt, v6, hW, hE, k2, k5, hz, hT]; exact is_rfl))
    | (apply op_no; (case hw => simp [g0, hlt, v6, hW, hE, k2, k5, hz, hT]))
    | refine op_nil ?_ | refine next_normal ?_ | refine go_seq ?_ | refine go_region ?_ | refine go_skip ?_ | refine go_block ?_ | refine inb_normal ?_
    | (apply go_yes; (case hc => simp [g0, hlt, v6, hW, hE, k2, k5, hz, hT])) | (apply go_no; (case hc => simp [g0, hlt, v6, hW, hE, k2, k5, hz, hT]))
    | refine go_exit ?_ | refine next_exit ?_ | refine inb_here ?_ | refine inb_past (by decide) ?_ | refine go_ret ?_ | refine next_ret ?_ | refine inb_ret ?_))
          (apply ends_ok; (case h1 => simp; exact is_rfl); (case h2 => simp; exact is_rfl))
          simp [hT]
      · have g0 : ¬ (k : Int) < n := by omega
        obtain rfl : k = n := by omega
        rw [List.drop_of_length_le (by rw [hlen]; exact Nat.le_refl _), applyS] at hA
        subst hA
        simp only [if_true] at hr
        cases hr
        (repeat (first
    | (apply is_ok; (case hw => simp [g0, hE, hp, g1, g5, g6, setP_setP]); (case he => simp [g0, hE, hp, g1, g5, g6, setP_setP]; exact is_rfl))
    | (apply op_no; (case hw => simp [g0, hE, hp, g1, g5, g6, setP_setP]))
    | refine op_nil ?_ | refine next_normal ?_ | refine go_seq ?_ | refine go_region ?_ | refine go_skip ?_ | refine go_block ?_ | refine inb_normal ?_
    | (apply go_yes; (case hc => simp [g0, hE, hp, g1, g5, g6, setP_setP])) | (apply go_no; (case hc => simp [g0, hE, hp, g1, g5, g6, setP_setP]))
    | refine go_exit ?_ | refine next_exit ?_ | refine inb_here ?_ | refine inb_past (by decide) ?_ | refine go_ret ?_ | refine next_ret ?_ | refine inb_ret ?_))
        (apply ends_ok; (case h1 => simp; exact is_rfl); (case h2 => simp; exact is_rfl))
        simp
end Go.Abs

namespace Go.Abs
open Go.Proofs
set_option maxRecDepth 100000
set_option linter.unusedSimpArgs false
set_option linter.unusedVariables false

theorem store08_eq (mem : List Int) (hm : mem.length ≤ 1000000) (hw : Words mem) (a : Nat) (t : List UInt8) (h : a + t.length ≤ 2 * mem.length) : bodyW DC 39 [.sl (ints mem), .int .i64 a, .str t] [] = some (.tuple [.own 0 mem.length 0 mem.length, .int .i64 0], [.dat true 1 (ints (storeN mem a t t.length))]) := by
  have v1 := within08_eq mem hm a t.length h
  have r1 : mem.length ≤ room := by unfold room; omega
  have r2 : mem.length * 8 ≤ room := by unfold room; omega
  (refine gives_iff ?_; refine go_func Tryz.f39 rfl rfl (by simp [Tryz.f39]) ?_; dsimp only [codeL, Tryz.f39, scL, sopsL, guardL, dstAt, loopKey])
  (repeat (first
    | (apply is_ok; (case hw => simp [v1, r1, r2]); (case he => simp [v1, r1, r2]; exact is_rfl))
    | (apply op_no; (case hw => simp [v1, r1, r2]))
    | refine op_nil ?_ | refine next_normal ?_ | refine go_seq ?_ | refine go_region ?_ | refine go_skip ?_ | refine go_block ?_ | refine inb_normal ?_
    | (apply go_yes; (case hc => simp [v1, r1, r2])) | (apply go_no; (case hc => simp [v1, r1, r2]))
    | refine go_exit ?_ | refine next_exit ?_ | refine inb_here ?_ | refine inb_past (by decide) ?_ | refine go_ret ?_ | refine next_ret ?_ | refine inb_ret ?_))
  refine go_count t.length (fun i => [(1, .int .i64 a), (2, .str t), (8, .own 0 mem.length 0 mem.length), (9, .int .i64 i)]) (fun i => [.dat true 1 (ints (storeN mem a t i))]) (fun _ => True) (by simp [storeN]) trivial fun i hi _ => ?_
  by_cases hlt : i < t.length
  · have g1 : (i : Int) < t.length := by omega
    have w1 : IntKind.i64.wrap ((i : Int) + 1) = (i : Int) + 1 := wrap_id (by omega) (by omega)
    obtain ⟨A, hA⟩ : ∃ A, A = a + i := ⟨_, rfl⟩
    have w2 : IntKind.i64.wrap ((a : Int) + i) = (A : Int) := by rw [hA, wrap_id (by omega) (by omega)]; omega
    have g3 : t[i]? = some t[i] := List.getElem?_eq_getElem hlt
    have hst : storeN mem a t (i + 1) = setByte (storeN mem a t i) A t[i] := by
      rw [storeN, ← hA, List.getD_eq_getElem?_getD, g3]
      rfl
    have hML : (storeN mem a t i).length = mem.length := by simp
    have v := set08_eq (storeN mem a t i) (storeN_words hw a t i) A (by omega) (by omega) t[i]
    rw [hML] at v
    have k1 : IntKind.i64.wrap (t[i].toNat : Int) = t[i].toNat := i64_small (by have := t[i].toNat_lt; omega)
    rw [hst]
    generalize storeN mem a t i = M at v hML
    (repeat (first
    | (apply is_ok; (case hw => simp [g1, w1, w2, v, g3, k1, hlt]); (case he => simp [g1, w1, w2, v, g3, k1, hlt]; exact is_rfl))
    | (apply op_no; (case hw => simp [g1, w1, w2, v, g3, k1, hlt]))
    | refine op_nil ?_ | refine next_normal ?_ | refine go_seq ?_ | refine go_region ?_ | refine go_skip ?_ | refine go_block ?_ | refine inb_normal ?_
    | (apply go_yes; (case hc => simp [g1, w1, w2, v, g3, k1, hlt])) | (apply go_no; (case hc => simp [g1, w1, w2, v, g3, k1, hlt]))
    | refine go_exit ?_ | refine next_exit ?_ | refine inb_here ?_ | refine inb_past (by decide) ?_ | refine go_ret ?_ | refine next_ret ?_ | refine inb_ret ?_))
    exact ⟨hlt, by simp [w1], trivial⟩
  · have : i = t.length := by omega
    subst this
    (repeat (first
    | (apply is_ok; (case hw => simp); (case he => simp; exact is_rfl))
    | (apply op_no; (case hw => simp))
    | refine op_nil ?_ | refine next_normal ?_ | refine go_seq ?_ | refine go_region ?_ | refine go_skip ?_ | refine go_block ?_ | refine inb_normal ?_
    | (apply go_yes; (case hc => simp)) | (apply go_no; (case hc => simp))
    | refine go_exit ?_ | refine next_exit ?_ | refine inb_here ?_ | refine inb_past (by decide) ?_ | refine go_ret ?_ | refine next_ret ?_ | refine inb_ret ?_))
    (apply ends_ok; (case h1 => simp; exact is_rfl); (case h2 => simp; exact is_rfl))
    simp

theorem without_eq (Z : List Int) (hl : Z.length ≤ 1000000) (fr n : Int) (hf : 0 ≤ fr ∧ fr ≤ 1000000000) (hn : 0 ≤ n ∧ n ≤ 1000000000) :
    bodyW DC 40 [.sl (ints Z), .int .i64 fr, .int .i64 n] [] = some (.own 0 (Z.filter fun a => !inR fr n a).length 0 (Z.filter fun a => !inR fr n a).length, [.dat true 1 (ints (Z.filter fun a => !inR fr n a))]) := by
  have w1 : IntKind.i64.wrap (fr + n) = fr + n := wrap_id (by omega) (by omega)
  (refine gives_iff ?_; refine go_func Tryz.f40 rfl rfl (by simp [Tryz.f40]) ?_; dsimp only [codeL, Tryz.f40, scL, sopsL, guardL, dstAt, loopKey])
  (repeat (first
    | (apply is_ok; (case hw => simp); (case he => simp; exact is_rfl))
    | (apply op_no; (case hw => simp))
    | refine op_nil ?_ | refine next_normal ?_ | refine go_seq ?_ | refine go_region ?_ | refine go_skip ?_ | refine go_block ?_ | refine inb_normal ?_
    | (apply go_yes; (case hc => simp)) | (apply go_no; (case hc => simp))
    | refine go_exit ?_ | refine next_exit ?_ | refine inb_here ?_ | refine inb_past (by decide) ?_ | refine go_ret ?_ | refine next_ret ?_ | refine inb_ret ?_))
  refine go_count Z.length (fun i => [(0, .sl (ints Z)), (1, .int .i64 fr), (2, .int .i64 n), (7, .own 0 ((Z.take i).filter fun a => !inR fr n a).length 0 ((Z.take i).filter fun a => !inR fr n a).length), (8, .int .i64 i)]) (fun i => [.dat true 1 (ints ((Z.take i).filter fun a => !inR fr n a))]) (fun _ => True) (by simp) trivial fun i hi _ => ?_
  by_cases hlt : i < Z.length
  · have g1 : (i : Int) < Z.length := by omega
    have g2 : Z[i]? = some Z[i] := List.getElem?_eq_getElem hlt
    have k2 : IntKind.i64.wrap ((i : Int) + 1) = (i : Int) + 1 := wrap_id (by omega) (by omega)
    have hks := kept_step (q := fun a => !inR fr n a) hlt
    have hkl := List.length_filter_le (fun a => !inR fr n a) (Z.take i)
    rw [List.length_take] at hkl
    rw [hks]
    generalize (Z.take i).filter (fun a => !inR fr n a) = K at hkl
    have r1 : (K.length + 1) * 8 ≤ room := by unfold room; omega
    have r2 : K.length + 1 ≤ room := by unfold room; omega
    unfold inR
    by_cases c1 : Z[i] < fr
    · have c3 : ¬ fr ≤ Z[i] := by omega
      (repeat (first
    | (apply is_ok; (case hw => simp [g1, g2, k2, c1, c3, r1, r2, w1, hlt]); (case he => simp [g1, g2, k2, c1, c3, r1, r2, w1, hlt]; exact is_rfl))
    | (apply op_no; (case hw => simp [g1, g2, k2, c1, c3, r1, r2, w1, hlt]))
    | refine op_nil ?_ | refine next_normal ?_ | refine go_seq ?_ | refine go_region ?_ | refine go_skip ?_ | refine go_block ?_ | refine inb_normal ?_
    | (apply go_yes; (case hc => simp [g1, g2, k2, c1, c3, r1, r2, w1, hlt])) | (apply go_no; (case hc => simp [g1, g2, k2, c1, c3, r1, r2, w1, hlt]))
    | refine go_exit ?_ | refine next_exit ?_ | refine inb_here ?_ | refine inb_past (by decide) ?_ | refine go_ret ?_ | refine next_ret ?_ | refine inb_ret ?_))
      exact ⟨hlt, by simp [k2, c3], trivial⟩
    · have c3 : fr ≤ Z[i] := by omega
      by_cases c2 : fr + n ≤ Z[i]
      · have c4 : ¬ Z[i] < fr + n := by omega
        (repeat (first
    | (apply is_ok; (case hw => simp [g1, g2, k2, c1, c2, c3, c4, r1, r2, w1, hlt]); (case he => simp [g1, g2, k2, c1, c2, c3, c4, r1, r2, w1, hlt]; exact is_rfl))
    | (apply op_no; (case hw => simp [g1, g2, k2, c1, c2, c3, c4, r1, r2, w1, hlt]))
    | refine op_nil ?_ | refine next_normal ?_ | refine go_seq ?_ | refine go_region ?_ | refine go_skip ?_ | refine go_block ?_ | refine inb_normal ?_
    | (apply go_yes; (case hc => simp [g1, g2, k2, c1, c2, c3, c4, r1, r2, w1, hlt])) | (apply go_no; (case hc => simp [g1, g2, k2, c1, c2, c3, c4, r1, r2, w1, hlt]))
    | refine go_exit ?_ | refine next_exit ?_ | refine inb_here ?_ | refine inb_past (by decide) ?_ | refine go_ret ?_ | refine next_ret ?_ | refine inb_ret ?_))
        exact ⟨hlt, by simp [k2, c3, c4], trivial⟩
      · have c4 : Z[i] < fr + n := by omega
        (repeat (first
    | (apply is_ok; (case hw => simp [g1, g2, k2, c1, c2, c3, c4, r1, r2, w1, hlt]); (case he => simp [g1, g2, k2, c1, c2, c3, c4, r1, r2, w1, hlt]; exact is_rfl))
    | (apply op_no; (case hw => simp [g1, g2, k2, c1, c2, c3, c4, r1, r2, w1, hlt]))
    | refine op_nil ?_ | refine next_normal ?_ | refine go_seq ?_ | refine go_region ?_ | refine go_skip ?_ | refine go_block ?_ | refine inb_normal ?_
    | (apply go_yes; (case hc => simp [g1, g2, k2, c1, c2, c3, c4, r1, r2, w1, hlt])) | (apply go_no; (case hc => simp [g1, g2, k2, c1, c2, c3, c4, r1, r2, w1, hlt]))
    | refine go_exit ?_ | refine next_exit ?_ | refine inb_here ?_ | refine inb_past (by decide) ?_ | refine go_ret ?_ | refine next_ret ?_ | refine inb_ret ?_))
        exact ⟨hlt, by simp [k2, c3, c4], trivial⟩
  · have : i = Z.length := by omega
    subst this
    rw [List.take_length]
    (repeat (first
    | (apply is_ok; (case hw => simp); (case he => simp; exact is_rfl))
    | (apply op_no; (case hw => simp))
    | refine op_nil ?_ | refine next_normal ?_ | refine go_seq ?_ | refine go_region ?_ | refine go_skip ?_ | refine go_block ?_ | refine inb_normal ?_
    | (apply go_yes; (case hc => simp)) | (apply go_no; (case hc => simp))
    | refine go_exit ?_ | refine next_exit ?_ | refine inb_here ?_ | refine inb_past (by decide) ?_ | refine go_ret ?_ | refine next_ret ?_ | refine inb_ret ?_))
    (apply ends_ok; (case h1 => simp; exact is_rfl); (case h2 => simp; exact is_rfl))
    simp

theorem InR_no (s : Sys) (k : Int) (h : imgB s.ps k true = false) : bodyW DC 9 [.agg s.cells, .int .i64 k] [] = some (.tuple [.agg zN, .int .i64 1], []) := by
  have hps := s.hps
  rw [s.cells_cw]
  by_cases h0 : k < 0
  · (refine gives_iff ?_; refine go_func Tryz.f9 rfl rfl (by simp [Tryz.f9]) ?_; dsimp only [codeL, Tryz.f9, scL, sopsL, guardL, dstAt, loopKey])
    (repeat (first
    | (apply is_ok; (case hw => simp [h0]); (case he => simp [h0]; exact is_rfl))
    | (apply op_no; (case hw => simp [h0]))
    | refine op_nil ?_ | refine next_normal ?_ | refine go_seq ?_ | refine go_region ?_ | refine go_skip ?_ | refine go_block ?_ | refine inb_normal ?_
    | (apply go_yes; (case hc => simp [h0])) | (apply go_no; (case hc => simp [h0]))
    | refine go_exit ?_ | refine next_exit ?_ | refine inb_here ?_ | refine inb_past (by decide) ?_ | refine go_ret ?_ | refine next_ret ?_ | refine inb_ret ?_))
    (apply ends_ok; (case h1 => simp; exact is_rfl); (case h2 => simp; exact is_rfl))
    simp
  by_cases h1 : 8 ≤ k
  · (refine gives_iff ?_; refine go_func Tryz.f9 rfl rfl (by simp [Tryz.f9]) ?_; dsimp only [codeL, Tryz.f9, scL, sopsL, guardL, dstAt, loopKey])
    (repeat (first
    | (apply is_ok; (case hw => simp [h0, h1]); (case he => simp [h0, h1]; exact is_rfl))
    | (apply op_no; (case hw => simp [h0, h1]))
    | refine op_nil ?_ | refine next_normal ?_ | refine go_seq ?_ | refine go_region ?_ | refine go_skip ?_ | refine go_block ?_ | refine inb_normal ?_
    | (apply go_yes; (case hc => simp [h0, h1])) | (apply go_no; (case hc => simp [h0, h1]))
    | refine go_exit ?_ | refine next_exit ?_ | refine inb_here ?_ | refine inb_past (by decide) ?_ | refine go_ret ?_ | refine next_ret ?_ | refine inb_ret ?_))
    (apply ends_ok; (case h1 => simp; exact is_rfl); (case h2 => simp; exact is_rfl))
    simp
  obtain ⟨i, rfl⟩ := Int.eq_ofNat_of_zero_le (by omega : 0 ≤ k)
  have hi : i < s.ps.length := by omega
  have g2 : s.ps[i]? = some s.ps[i] := List.getElem?_eq_getElem hi
  have g3 : i < 8 := by omega
  have g4 : ¬ 8 ≤ (i : Int) := by omega
  have g7 : ¬ 8 ≤ i := by omega
  have g8 : ¬ (i : Int) < 0 := by omega
  have v := hasR_eq s.ps[i]
  by_cases c1 : hasP s.ps[i]
  · rw [decide_eq_true c1] at v
    have c2 : s.ps[i].swd = false := swd_other g2 c1 h
    (refine gives_iff ?_; refine go_func Tryz.f9 rfl rfl (by simp [Tryz.f9]) ?_; dsimp only [codeL, Tryz.f9, scL, sopsL, guardL, dstAt, loopKey])
    (repeat (first
    | (apply is_ok; (case hw => simp [h0, g4, g7, g8, g2, g3, v, c2]); (case he => simp [h0, g4, g7, g8, g2, g3, v, c2]; exact is_rfl))
    | (apply op_no; (case hw => simp [h0, g4, g7, g8, g2, g3, v, c2]))
    | refine op_nil ?_ | refine next_normal ?_ | refine go_seq ?_ | refine go_region ?_ | refine go_skip ?_ | refine go_block ?_ | refine inb_normal ?_
    | (apply go_yes; (case hc => simp [h0, g4, g7, g8, g2, g3, v, c2])) | (apply go_no; (case hc => simp [h0, g4, g7, g8, g2, g3, v, c2]))
    | refine go_exit ?_ | refine next_exit ?_ | refine inb_here ?_ | refine inb_past (by decide) ?_ | refine go_ret ?_ | refine next_ret ?_ | refine inb_ret ?_))
    (apply ends_ok; (case h1 => simp; exact is_rfl); (case h2 => simp; exact is_rfl))
    simp
  · rw [decide_eq_false c1] at v
    (refine gives_iff ?_; refine go_func Tryz.f9 rfl rfl (by simp [Tryz.f9]) ?_; dsimp only [codeL, Tryz.f9, scL, sopsL, guardL, dstAt, loopKey])
    (repeat (first
    | (apply is_ok; (case hw => simp [h0, g4, g7, g8, g2, g3, v]); (case he => simp [h0, g4, g7, g8, g2, g3, v]; exact is_rfl))
    | (apply op_no; (case hw => simp [h0, g4, g7, g8, g2, g3, v]))
    | refine op_nil ?_ | refine next_normal ?_ | refine go_seq ?_ | refine go_region ?_ | refine go_skip ?_ | refine go_block ?_ | refine inb_normal ?_
    | (apply go_yes; (case hc => simp [h0, g4, g7, g8, g2, g3, v])) | (apply go_no; (case hc => simp [h0, g4, g7, g8, g2, g3, v]))
    | refine go_exit ?_ | refine next_exit ?_ | refine inb_here ?_ | refine inb_past (by decide) ?_ | refine go_ret ?_ | refine next_ret ?_ | refine inb_ret ?_))
    (apply ends_ok; (case h1 => simp; exact is_rfl); (case h2 => simp; exact is_rfl))
    simp

section
variable (s : Sys) (hs : Fine s) (i : Nat) (p : Pr) (hp : s.ps[i]? = some p) (h1 : hasP p) (h2 : p.swd = true)
include hs hp h1 h2
theorem InR_full (hf : fitN (coreL s.ps) s.co p.blk = none) : bodyW DC 9 [.agg s.cells, .int .i64 i] [] = some (.tuple [.agg zN, .int .i64 26], []) := by
  have hps := s.hps
  have hpm := List.mem_of_getElem? hp
  have hi := (List.getElem?_eq_some_iff.1 hp).1
  have g1 : i < 8 := by omega
  have g4 : ¬ 8 ≤ (i : Int) := by omega
  have g7 : ¬ 8 ≤ i := by omega
  have g8 : ¬ (i : Int) < 0 := by omega
  have v1 := hasR_eq p
  rw [decide_eq_true h1] at v1
  have l2 := coreL_len s.ps
  have v3 := CoreR_eq s
  have v4 := FitR_eq' (coreL s.ps) (by omega) (fun y hy => mem_core hs.right.2.2.2.2 hy) s.co hs.right.1 p.blk
  unfold fitV at v4
  rw [hf] at v4
  rw [s.cells_cw]
  (refine gives_iff ?_; refine go_func Tryz.f9 rfl rfl (by simp [Tryz.f9]) ?_; dsimp only [codeL, Tryz.f9, scL, sopsL, guardL, dstAt, loopKey])
  (repeat (first
    | (apply is_ok; (case hw => simp [v1, v3, v4, g1, g4, g7, g8, hp, h2, exV]); (case he => simp [v1, v3, v4, g1, g4, g7, g8, hp, h2, exV]; exact is_rfl))
    | (apply op_no; (case hw => simp [v1, v3, v4, g1, g4, g7, g8, hp, h2, exV]))
    | refine op_nil ?_ | refine next_normal ?_ | refine go_seq ?_ | refine go_region ?_ | refine go_skip ?_ | refine go_block ?_ | refine inb_normal ?_
    | (apply go_yes; (case hc => simp [v1, v3, v4, g1, g4, g7, g8, hp, h2, exV])) | (apply go_no; (case hc => simp [v1, v3, v4, g1, g4, g7, g8, hp, h2, exV]))
    | refine go_exit ?_ | refine next_exit ?_ | refine inb_here ?_ | refine inb_past (by decide) ?_ | refine go_ret ?_ | refine next_ret ?_ | refine inb_ret ?_))
  (apply ends_ok; (case h1 => simp; exact is_rfl); (case h2 => simp; exact is_rfl))
  simp

set_option maxHeartbeats 4000000 in
theorem InR_err (hw : ∀ q ∈ s.ps, q.Wf) (hR : RightP s.S s.B) (n0 : Int) (hf : fitN (coreL s.ps) s.co p.blk = some n0) (j0 : Nat) (hj0 : (j0 : Int) < secN p.blk) (he : (readS s.S s.B (p.base + j0)).2 ≠ 0) (hmin : ∀ j : Nat, j < j0 → (readS s.S s.B (p.base + j)).2 = 0) :
    bodyW DC 9 [.agg s.cells, .int .i64 i] [] = some (.tuple [.agg zN, .int .i64 (readS s.S s.B (p.base + j0)).2], []) := by
  have hps := s.hps
  have hpm := List.mem_of_getElem? hp
  have hi := (List.getElem?_eq_some_iff.1 hp).1
  have g1 : i < 8 := by omega
  have g4 : ¬ 8 ≤ (i : Int) := by omega
  have g7 : ¬ 8 ≤ i := by omega
  have g8 : ¬ (i : Int) < 0 := by omega
  have v1 := hasR_eq p
  rw [decide_eq_true h1] at v1
  have l2 := coreL_len s.ps
  have v2 := SectorsR_eq p.blk (hw p hpm).2.2
  have v3 := CoreR_eq s
  have v4 := FitR_eq' (coreL s.ps) (by omega) (fun y hy => mem_core hs.right.2.2.2.2 hy) s.co hs.right.1 p.blk
  unfold fitV at v4
  rw [hf] at v4
  obtain ⟨c1, c2, c3, c4, c5, c6⟩ := swp_in hs hpm h1 h2
  obtain ⟨s1, s2, s3⟩ := secN_bound c4 c5
  obtain ⟨ba, hba⟩ := Int.eq_ofNat_of_zero_le c2
  obtain ⟨n, hn2⟩ := Int.eq_ofNat_of_zero_le (by omega : 0 ≤ secN p.blk)
  rw [hn2] at v2 hj0
  have hSl := hs.S
  have hrd : ∀ j : Nat, j < n → (readS s.S s.B (p.base + j)).2 = 0 → readS s.S s.B ((ba : Int) + j) = (s.S.getD (ba + j) [], 0) ∧ (s.S.getD (ba + j) []).length = 128 := fun j hj h0 => by
    rw [hba] at h0
    unfold readS at h0 ⊢
    rw [if_pos (by omega)] at h0 ⊢
    split at h0
    · cases h0
    · rename_i hb
      rw [if_neg hb, show ((ba : Int) + j).toNat = ba + j by omega]
      have hlt : ba + j < s.S.length := by omega
      exact ⟨rfl, by rw [List.getD_eq_getElem?_getD, List.getElem?_eq_getElem hlt]; exact hR.2.2.1 _ (List.getElem_mem hlt)⟩
  rw [hba] at he
  generalize hE : (readS s.S s.B (p.base + j0)).2 = E
  rw [hba] at hE
  rw [hE] at he
  have vr := fun k => ReadR_eq s.S s.B (by have := hs.B; unfold maxLen; omega) k
  rw [s.cells_cw]
  (refine gives_iff ?_; refine go_func Tryz.f9 rfl rfl (by simp [Tryz.f9]) ?_; dsimp only [codeL, Tryz.f9, scL, sopsL, guardL, dstAt, loopKey])
  (repeat (first
    | (apply is_ok; (case hw => simp [v1, v2, v3, v4, g1, g4, g7, g8, hp, h2, exV]); (case he => simp [v1, v2, v3, v4, g1, g4, g7, g8, hp, h2, exV]; exact is_rfl))
    | (apply op_no; (case hw => simp [v1, v2, v3, v4, g1, g4, g7, g8, hp, h2, exV]))
    | refine op_nil ?_ | refine next_normal ?_ | refine go_seq ?_ | refine go_region ?_ | refine go_skip ?_ | refine go_block ?_ | refine inb_normal ?_
    | (apply go_yes; (case hc => simp [v1, v2, v3, v4, g1, g4, g7, g8, hp, h2, exV])) | (apply go_no; (case hc => simp [v1, v2, v3, v4, g1, g4, g7, g8, hp, h2, exV]))
    | refine go_exit ?_ | refine next_exit ?_ | refine inb_here ?_ | refine inb_past (by decide) ?_ | refine go_ret ?_ | refine next_ret ?_ | refine inb_ret ?_))
  refine go_count j0 (fun j => [(1, .int .i64 i), (2, .ptr 0 1 0 0), (4, .ptr 1 1 0 0), (6, .ptr 9 1 0 0), (7, .int .i64 n0), (9, .str (catS s.S ba j)), (10, .int .i64 j)])
    (fun j => [.box (.agg (s.cw (.sl (ints s.mem)) (.sl (ints s.bad)) (.sl (strs s.S)) (.sl (ints s.B)))), .box (.agg (zO (.own 2 0 0 0) (.own 3 0 0 0) (.own 4 0 0 0) (.own 5 0 0 0) (.own 6 0 0 0) (.own 7 0 0 0) (.own 8 0 0 0))), .dat true 1 [], .dat true 1 [], .dat true 9 [], .dat true 1 [], .dat true 1 [], .dat true 1 [], .dat true 4 [], .box (.agg p.cells)]) (fun j => (catS s.S ba j).length = 128 * j) (by simp [catS]) rfl fun j hj hJ => ?_
  have k1 : (j : Int) < n := by omega
  have k2 : IntKind.i64.wrap ((j : Int) + 1) = (j : Int) + 1 := wrap_id (by omega) (by omega)
  have k5 : IntKind.i64.wrap ((ba : Int) + (j : Int)) = (ba : Int) + (j : Int) := wrap_id (by omega) (by omega)
  have hjb : (j : Int) ≤ 1048576 := by omega
  by_cases hlt : j < j0
  · obtain ⟨r1, r2⟩ := hrd j (by omega) (hmin j hlt)
    have v5 := vr ((ba : Int) + j)
    rw [r1] at v5
    have hc := catS_succ s.S ba j
    rw [hc]
    generalize catS s.S ba j = b at hJ
    generalize s.S.getD (ba + j) [] = t at v5 r2
    have r3 : b.length + t.length ≤ room := by unfold room; omega
    (repeat (first
    | (apply is_ok; (case hw => simp [k1, k2, k5, hba, v2, v5, r3]); (case he => simp [k1, k2, k5, hba, v2, v5, r3]; exact is_rfl))
    | (apply op_no; (case hw => simp [k1, k2, k5, hba, v2, v5, r3]))
    | refine op_nil ?_ | refine next_normal ?_ | refine go_seq ?_ | refine go_region ?_ | refine go_skip ?_ | refine go_block ?_ | refine inb_normal ?_
    | (apply go_yes; (case hc => simp [k1, k2, k5, hba, v2, v5, r3])) | (apply go_no; (case hc => simp [k1, k2, k5, hba, v2, v5, r3]))
    | refine go_exit ?_ | refine next_exit ?_ | refine inb_here ?_ | refine inb_past (by decide) ?_ | refine go_ret ?_ | refine next_ret ?_ | refine inb_ret ?_))
    exact ⟨hlt, by simp [k2], by rw [List.length_append, hJ, r2]; omega⟩
  · obtain rfl : j = j0 := by omega
    have v5 := vr ((ba : Int) + j)
    rw [hE] at v5
    generalize (readS s.S s.B ((ba : Int) + j)).1 = t at v5
    (repeat (first
    | (apply is_ok; (case hw => simp [k1, k5, hba, v2, v5, he]); (case he => simp [k1, k5, hba, v2, v5, he]; exact is_rfl))
    | (apply op_no; (case hw => simp [k1, k5, hba, v2, v5, he]))
    | refine op_nil ?_ | refine next_normal ?_ | refine go_seq ?_ | refine go_region ?_ | refine go_skip ?_ | refine go_block ?_ | refine inb_normal ?_
    | (apply go_yes; (case hc => simp [k1, k5, hba, v2, v5, he])) | (apply go_no; (case hc => simp [k1, k5, hba, v2, v5, he]))
    | refine go_exit ?_ | refine next_exit ?_ | refine inb_here ?_ | refine inb_past (by decide) ?_ | refine go_ret ?_ | refine next_ret ?_ | refine inb_ret ?_))
    (apply ends_ok; (case h1 => simp; exact is_rfl); (case h2 => simp; exact is_rfl))
    simp

set_option maxHeartbeats 4000000 in
theorem InR_ok (hw : ∀ q ∈ s.ps, q.Wf) (hbl0 : s.bad.length ≤ 1024) (hR : RightP s.S s.B) (n0 : Int) (hf : fitN (coreL s.ps) s.co p.blk = some n0) (hmin : ∀ j : Nat, (j : Int) < secN p.blk → (readS s.S s.B (p.base + j)).2 = 0) :
    bodyW DC 9 [.agg s.cells, .int .i64 i] [] = some (.tuple [.agg ((s.setP i { p with base := n0, swd := false }).cw (.own 0 s.mem.length 0 s.mem.length) (.own 1 (s.bad.filter fun a => !inR (n0 * 64) (p.blk * 64) a).length 0 (s.bad.filter fun a => !inR (n0 * 64) (p.blk * 64) a).length) (.sl (strs s.S)) (.sl (ints s.B))), .int .i64 0],
      [.dat true 1 (ints (storeN s.mem (n0.toNat * 64) (inT s p) (inT s p).length)), .dat true 1 (ints (s.bad.filter fun a => !inR (n0 * 64) (p.blk * 64) a))]) := by
  have hps := s.hps
  have hpm := List.mem_of_getElem? hp
  have hi := (List.getElem?_eq_some_iff.1 hp).1
  have g1 : i < 8 := by omega
  have g4 : ¬ 8 ≤ (i : Int) := by omega
  have g7 : ¬ 8 ≤ i := by omega
  have g8 : ¬ (i : Int) < 0 := by omega
  have v1 := hasR_eq p
  rw [decide_eq_true h1] at v1
  have l2 := coreL_len s.ps
  have v2 := SectorsR_eq p.blk (hw p hpm).2.2
  have v3 := CoreR_eq s
  have v4 := FitR_eq' (coreL s.ps) (by omega) (fun y hy => mem_core hs.right.2.2.2.2 hy) s.co hs.right.1 p.blk
  unfold fitV at v4
  obtain ⟨c1, c2, c3, c4, c5, c6⟩ := swp_in hs hpm h1 h2
  have hroom := ((fit_least (l := coreL s.ps) (w := s.co) (k := p.blk) (by omega)).1 n0 hf).1
  rw [hf] at v4
  obtain ⟨s1, s2, s3⟩ := secN_bound c4 c5
  obtain ⟨ba, hba⟩ := Int.eq_ofNat_of_zero_le c2
  obtain ⟨bl, hbl⟩ := Int.eq_ofNat_of_zero_le (by omega : 0 ≤ p.blk)
  obtain ⟨n, hn2⟩ := Int.eq_ofNat_of_zero_le (by omega : 0 ≤ secN p.blk)
  have co1 := hs.right.1.1
  have ro1 := hroom.2.1
  have ro2 := hroom.2.2
  obtain ⟨n1, hn1⟩ := Int.eq_ofNat_of_zero_le (by omega : 0 ≤ n0)
  subst hn1
  have cmem : ((s.co.1 + s.co.2) * 32 : Int) ≤ s.mem.length := by
    have c := hs.right.2.2.1
    have h5 : 0 < s.co.2 := by omega
    have h6 : ¬ (s.mem.length : Int) < (s.co.1 + s.co.2) * 32 := fun h => c ⟨h5, h⟩
    omega
  have hm := hs.mem
  rw [hn2] at v2 hmin
  have hSl := hs.S
  have hrd : ∀ j : Nat, j < n → readS s.S s.B ((ba : Int) + j) = (s.S.getD (ba + j) [], 0) ∧ (s.S.getD (ba + j) []).length = 128 := fun j hj => by
    have h0 := hmin j (by omega)
    rw [hba] at h0
    unfold readS at h0 ⊢
    rw [if_pos (by omega)] at h0 ⊢
    split at h0
    · cases h0
    · rename_i hb
      rw [if_neg hb, show ((ba : Int) + j).toNat = ba + j by omega]
      have hlt : ba + j < s.S.length := by omega
      exact ⟨rfl, by rw [List.getD_eq_getElem?_getD, List.getElem?_eq_getElem hlt]; exact hR.2.2.1 _ (List.getElem_mem hlt)⟩
  have vr := fun k => ReadR_eq s.S s.B (by have := hs.B; unfold maxLen; omega) k
  have ht0 : inT s p = (catS s.S ba n).take (bl * 64) := by unfold inT; rw [hn2, hba, hbl]; rfl
  rw [ht0]
  rw [s.cells_cw]
  rw [show ((n1 : Int)).toNat = n1 by omega]
  rw [show ((n1 : Int) * 64) = ((n1 * 64 : Nat) : Int) by omega, show p.blk * 64 = ((bl * 64 : Nat) : Int) by rw [hbl]; omega]
  obtain ⟨fr, hfr⟩ : ∃ fr, fr = n1 * 64 := ⟨_, rfl⟩
  obtain ⟨nb, hnb⟩ : ∃ nb, nb = bl * 64 := ⟨_, rfl⟩
  rw [← hfr, ← hnb]
  rw [hbl] at v2 v4
  (refine gives_iff ?_; refine go_func Tryz.f9 rfl rfl (by simp [Tryz.f9]) ?_; dsimp only [codeL, Tryz.f9, scL, sopsL, guardL, dstAt, loopKey])
  (repeat (first
    | (apply is_ok; (case hw => simp [v1, v2, v3, v4, g1, g4, g7, g8, hp, h2, hbl, exV]); (case he => simp [v1, v2, v3, v4, g1, g4, g7, g8, hp, h2, hbl, exV]; exact is_rfl))
    | (apply op_no; (case hw => simp [v1, v2, v3, v4, g1, g4, g7, g8, hp, h2, hbl, exV]))
    | refine op_nil ?_ | refine next_normal ?_ | refine go_seq ?_ | refine go_region ?_ | refine go_skip ?_ | refine go_block ?_ | refine inb_normal ?_
    | (apply go_yes; (case hc => simp [v1, v2, v3, v4, g1, g4, g7, g8, hp, h2, hbl, exV])) | (apply go_no; (case hc => simp [v1, v2, v3, v4, g1, g4, g7, g8, hp, h2, hbl, exV]))
    | refine go_exit ?_ | refine next_exit ?_ | refine inb_here ?_ | refine inb_past (by decide) ?_ | refine go_ret ?_ | refine next_ret ?_ | refine inb_ret ?_))
  refine go_count n (fun j => [(1, .int .i64 i), (2, .ptr 0 1 0 0), (4, .ptr 1 1 0 0), (6, .ptr 9 1 0 0), (7, .int .i64 n1), (9, .str (catS s.S ba j)), (10, .int .i64 j)])
    (fun j => [.box (.agg (s.cw (.sl (ints s.mem)) (.sl (ints s.bad)) (.sl (strs s.S)) (.sl (ints s.B)))), .box (.agg (zO (.own 2 0 0 0) (.own 3 0 0 0) (.own 4 0 0 0) (.own 5 0 0 0) (.own 6 0 0 0) (.own 7 0 0 0) (.own 8 0 0 0))), .dat true 1 [], .dat true 1 [], .dat true 9 [], .dat true 1 [], .dat true 1 [], .dat true 1 [], .dat true 4 [], .box (.agg p.cells)]) (fun j => (catS s.S ba j).length = 128 * j) (by simp [catS]) rfl fun j hj hJ => ?_
  have k2 : IntKind.i64.wrap ((j : Int) + 1) = (j : Int) + 1 := wrap_id (by omega) (by omega)
  have k5 : IntKind.i64.wrap ((ba : Int) + (j : Int)) = (ba : Int) + (j : Int) := wrap_id (by omega) (by omega)
  have hjb : (j : Int) ≤ 1048576 := by omega
  by_cases hlt : j < n
  · have k1 : (j : Int) < n := by omega
    obtain ⟨r1, r2⟩ := hrd j (by omega)
    have v5 := vr ((ba : Int) + j)
    rw [r1] at v5
    have hc := catS_succ s.S ba j
    rw [hc]
    generalize catS s.S ba j = b at hJ
    generalize s.S.getD (ba + j) [] = t at v5 r2
    have r3 : b.length + t.length ≤ room := by unfold room; omega
    (repeat (first
    | (apply is_ok; (case hw => simp [k1, k2, k5, hbl, hba, v2, v5, r3]); (case he => simp [k1, k2, k5, hbl, hba, v2, v5, r3]; exact is_rfl))
    | (apply op_no; (case hw => simp [k1, k2, k5, hbl, hba, v2, v5, r3]))
    | refine op_nil ?_ | refine next_normal ?_ | refine go_seq ?_ | refine go_region ?_ | refine go_skip ?_ | refine go_block ?_ | refine inb_normal ?_
    | (apply go_yes; (case hc => simp [k1, k2, k5, hbl, hba, v2, v5, r3])) | (apply go_no; (case hc => simp [k1, k2, k5, hbl, hba, v2, v5, r3]))
    | refine go_exit ?_ | refine next_exit ?_ | refine inb_here ?_ | refine inb_past (by decide) ?_ | refine go_ret ?_ | refine next_ret ?_ | refine inb_ret ?_))
    exact ⟨hlt, by simp [k2], by rw [List.length_append, hJ, r2]; omega⟩
  · obtain rfl : j = n := by omega
    have k1 : ¬ (j : Int) < j := by omega
    have w1 : IntKind.i64.wrap (64 * (n1 : Int)) = (fr : Int) := by rw [wrap_id (by omega) (by omega)]; omega
    have w2 : IntKind.i64.wrap (64 * (bl : Int)) = (nb : Int) := by rw [wrap_id (by omega) (by omega)]; omega
    generalize catS s.S ba j = C at hJ ⊢
    have hjp : 0 < j := by omega
    have hjb2 : (j : Int) = bl / 2 + bl % 2 := by rw [← hn2, s3, hbl]
    have hCl : nb ≤ C.length := by omega
    have v7 := store08_eq s.mem (by omega) hs.words fr (C.take nb) (by rw [List.length_take]; omega)
    have htl : (C.take nb).length = nb := by rw [List.length_take]; omega
    rw [htl] at v7 ⊢
    have v8 := without_eq s.bad (by omega) fr nb ⟨by omega, by omega⟩ ⟨by omega, by omega⟩
    have g5 : ∀ q : Pr, (s.ps.set i q)[i]? = some q := fun q => by rw [List.getElem?_set_self hi]
    have g6 : ∀ q : Pr, (s.setP i q).ps[i]? = some q := g5
    (repeat (first
    | (apply is_ok; (case hw => simp [k1, w1, w2, hp, g1, hba, hbl, v2, hCl, v7, v8, g5, g6, setP_setP]); (case he => simp [k1, w1, w2, hp, g1, hba, hbl, v2, hCl, v7, v8, g5, g6, setP_setP]; exact is_rfl))
    | (apply op_no; (case hw => simp [k1, w1, w2, hp, g1, hba, hbl, v2, hCl, v7, v8, g5, g6, setP_setP]))
    | refine op_nil ?_ | refine next_normal ?_ | refine go_seq ?_ | refine go_region ?_ | refine go_skip ?_ | refine go_block ?_ | refine inb_normal ?_
    | (apply go_yes; (case hc => simp [k1, w1, w2, hp, g1, hba, hbl, v2, hCl, v7, v8, g5, g6, setP_setP])) | (apply go_no; (case hc => simp [k1, w1, w2, hp, g1, hba, hbl, v2, hCl, v7, v8, g5, g6, setP_setP]))
    | refine go_exit ?_ | refine next_exit ?_ | refine inb_here ?_ | refine inb_past (by decide) ?_ | refine go_ret ?_ | refine next_ret ?_ | refine inb_ret ?_))
    (apply ends_ok; (case h1 => simp; exact is_rfl); (case h2 => simp; exact is_rfl))
    simp [hbl]
end
end Go.Abs

