/- Proved here: what functions of the program compute, over the evaluator. No condition but those that each theorem states. -/
import Derived.Test.YtpffmpllnpmkbaaE3
namespace Go.Abs
open Go.Proofs
set_option maxRecDepth 100000
set_option linter.unusedSimpArgs false
set_option linter.unusedVariables false

theorem and_ffff (x : Int) : IntKind.i64.wrap ((BitVec.ofInt 64 x &&& 65535#64).toNat : Int) = x % 65536 := by
  have h : (BitVec.ofInt 64 x &&& 65535#64).toNat = (x % 18446744073709551616).toNat % 65536 := by
    rw [BitVec.toNat_and, BitVec.toNat_ofInt]
    exact Nat.and_two_pow_sub_one_eq_mod _ 16
  rw [h, wrap_id (by omega) (by omega)]
  omega

theorem intOp_and (x : Int) : intOp .and .i64 x 65535 = some (.int .i64 (x % 65536)) := by
  show some (V.int .i64 (IntKind.i64.wrap ((BitVec.ofInt 64 x &&& BitVec.ofInt 64 65535).toNat : Int))) = _
  rw [show BitVec.ofInt 64 65535 = 65535#64 from rfl, and_ffff x]
@[simp] theorem intOp_add (k : IntKind) (a b : Int) : intOp .add k a b = some (.int k (k.wrap (a + b))) := rfl
@[simp] theorem intOp_sub (k : IntKind) (a b : Int) : intOp .sub k a b = some (.int k (k.wrap (a - b))) := rfl
@[simp] theorem intOp_mul (k : IntKind) (a b : Int) : intOp .mul k a b = some (.int k (k.wrap (a * b))) := rfl
@[simp] theorem intOp_eql (k : IntKind) (a b : Int) : intOp .eql k a b = some (.bool (a == b)) := rfl
@[simp] theorem intOp_neq (k : IntKind) (a b : Int) : intOp .neq k a b = some (.bool (a != b)) := rfl
@[simp] theorem intOp_lss (k : IntKind) (a b : Int) : intOp .lss k a b = some (.bool (decide (a < b))) := rfl
@[simp] theorem intOp_leq (k : IntKind) (a b : Int) : intOp .leq k a b = some (.bool (decide (a ≤ b))) := rfl
@[simp] theorem intOp_gtr (k : IntKind) (a b : Int) : intOp .gtr k a b = some (.bool (decide (a > b))) := rfl
@[simp] theorem intOp_geq (k : IntKind) (a b : Int) : intOp .geq k a b = some (.bool (decide (a ≥ b))) := rfl

set_option maxHeartbeats 4000000 in
theorem Valid_eq (k l z : Int) (L : List Int) (hL : L.length = 8) (hL8 : In64 L) : bodyW DC 41 [inoV k l z L] [] = some (.bool (decide (validI k l z L)), []) := by
  have h8 := (eq_ino k l z 0 0 0 L (List.replicate 8 0) hL rfl).1
  simp only [inoV, ints, List.replicate, List.map_cons, List.map_nil] at h8
  (refine gives_iff ?_; refine go_func Try.f41 rfl rfl (by simp [Try.f41]) ?_; dsimp only [codeL, Try.f41, scL, sopsL, guardL, dstAt, loopKey])
  by_cases h0 : k = 0
  · subst h0
    (repeat (first
    | (apply is_ok; (case hw => simp [hL]); (case he => simp [hL]; exact is_rfl))
    | (apply op_no; (case hw => simp [hL]))
    | refine op_nil ?_ | refine next_normal ?_ | refine go_seq ?_ | refine go_region ?_ | refine go_skip ?_ | refine go_block ?_ | refine inb_normal ?_
    | (apply go_yes; (case hc => simp [hL])) | (apply go_no; (case hc => simp [hL]))
    | refine go_exit ?_ | refine next_exit ?_ | refine inb_here ?_ | refine inb_past (by decide) ?_ | refine go_ret ?_ | refine next_ret ?_ | refine inb_ret ?_))
    (repeat (first
    | (apply is_ok; (case hw => simp [-binV, h8]); (case he => simp [-binV, h8]; exact is_rfl))
    | (apply op_no; (case hw => simp [-binV, h8]))
    | refine op_nil ?_ | refine next_normal ?_ | refine go_seq ?_ | refine go_region ?_ | refine go_skip ?_ | refine go_block ?_ | refine inb_normal ?_
    | (apply go_yes; (case hc => simp [-binV, h8])) | (apply go_no; (case hc => simp [-binV, h8]))
    | refine go_exit ?_ | refine next_exit ?_ | refine inb_here ?_ | refine inb_past (by decide) ?_ | refine go_ret ?_ | refine next_ret ?_ | refine inb_ret ?_))
    (apply ends_ok; (case h1 => simp; exact is_rfl); (case h2 => simp; exact is_rfl))
    simp [validI, List.replicate]
  by_cases h1 : k = 1 ∨ k = 2
  case neg =>
    have h2 : ¬ k = 1 := fun h => h1 (.inl h)
    have h3 : ¬ k = 2 := fun h => h1 (.inr h)
    (repeat (first
    | (apply is_ok; (case hw => simp [hL, h0, h2, h3]); (case he => simp [hL, h0, h2, h3]; exact is_rfl))
    | (apply op_no; (case hw => simp [hL, h0, h2, h3]))
    | refine op_nil ?_ | refine next_normal ?_ | refine go_seq ?_ | refine go_region ?_ | refine go_skip ?_ | refine go_block ?_ | refine inb_normal ?_
    | (apply go_yes; (case hc => simp [hL, h0, h2, h3])) | (apply go_no; (case hc => simp [hL, h0, h2, h3]))
    | refine go_exit ?_ | refine next_exit ?_ | refine inb_here ?_ | refine inb_past (by decide) ?_ | refine go_ret ?_ | refine next_ret ?_ | refine inb_ret ?_))
    (apply ends_ok; (case h1 => simp; exact is_rfl); (case h2 => simp; exact is_rfl))
    simp [validI, h0, h2, h3]
  have hk : (k = 1) ∨ (¬ k = 1 ∧ k = 2) := by omega
  have fail : ∀ (P : Prop), (validI k l z L → P) → ¬ P → ¬ validI k l z L := fun P h1 h2 h => h2 (h1 h)
  by_cases hl0 : 0 ≤ l
  case neg =>
    have hl0' : l < 0 := by omega
    have hv := fail (0 ≤ l) (fun h => by unfold validI at h; rw [if_neg h0] at h; exact h.2.1) hl0
    rcases hk with hk | ⟨hk1, hk2⟩
    · (repeat (first
    | (apply is_ok; (case hw => simp [hL, h0, hk, hl0, hl0']); (case he => simp [hL, h0, hk, hl0, hl0']; exact is_rfl))
    | (apply op_no; (case hw => simp [hL, h0, hk, hl0, hl0']))
    | refine op_nil ?_ | refine next_normal ?_ | refine go_seq ?_ | refine go_region ?_ | refine go_skip ?_ | refine go_block ?_ | refine inb_normal ?_
    | (apply go_yes; (case hc => simp [hL, h0, hk, hl0, hl0'])) | (apply go_no; (case hc => simp [hL, h0, hk, hl0, hl0']))
    | refine go_exit ?_ | refine next_exit ?_ | refine inb_here ?_ | refine inb_past (by decide) ?_ | refine go_ret ?_ | refine next_ret ?_ | refine inb_ret ?_))
      (apply ends_ok; (case h1 => simp; exact is_rfl); (case h2 => simp; exact is_rfl))
      simp [hv]
    · (repeat (first
    | (apply is_ok; (case hw => simp [hL, h0, hk1, hk2, hl0, hl0']); (case he => simp [hL, h0, hk1, hk2, hl0, hl0']; exact is_rfl))
    | (apply op_no; (case hw => simp [hL, h0, hk1, hk2, hl0, hl0']))
    | refine op_nil ?_ | refine next_normal ?_ | refine go_seq ?_ | refine go_region ?_ | refine go_skip ?_ | refine go_block ?_ | refine inb_normal ?_
    | (apply go_yes; (case hc => simp [hL, h0, hk1, hk2, hl0, hl0'])) | (apply go_no; (case hc => simp [hL, h0, hk1, hk2, hl0, hl0']))
    | refine go_exit ?_ | refine next_exit ?_ | refine inb_here ?_ | refine inb_past (by decide) ?_ | refine go_ret ?_ | refine next_ret ?_ | refine inb_ret ?_))
      (apply ends_ok; (case h1 => simp; exact is_rfl); (case h2 => simp; exact is_rfl))
      simp [hv]
  have hl0' : ¬ l < 0 := by omega
  by_cases hl1 : l ≤ 32
  case neg =>
    have hl1' : 32 < l := by omega
    have hv := fail (l ≤ 32) (fun h => by unfold validI at h; rw [if_neg h0] at h; exact h.2.2.1) hl1
    rcases hk with hk | ⟨hk1, hk2⟩
    · (repeat (first
    | (apply is_ok; (case hw => simp [hL, h0, hk, hl0, hl0', hl1, hl1']); (case he => simp [hL, h0, hk, hl0, hl0', hl1, hl1']; exact is_rfl))
    | (apply op_no; (case hw => simp [hL, h0, hk, hl0, hl0', hl1, hl1']))
    | refine op_nil ?_ | refine next_normal ?_ | refine go_seq ?_ | refine go_region ?_ | refine go_skip ?_ | refine go_block ?_ | refine inb_normal ?_
    | (apply go_yes; (case hc => simp [hL, h0, hk, hl0, hl0', hl1, hl1'])) | (apply go_no; (case hc => simp [hL, h0, hk, hl0, hl0', hl1, hl1']))
    | refine go_exit ?_ | refine next_exit ?_ | refine inb_here ?_ | refine inb_past (by decide) ?_ | refine go_ret ?_ | refine next_ret ?_ | refine inb_ret ?_))
      (apply ends_ok; (case h1 => simp; exact is_rfl); (case h2 => simp; exact is_rfl))
      simp [hv]
    · (repeat (first
    | (apply is_ok; (case hw => simp [hL, h0, hk1, hk2, hl0, hl0', hl1, hl1']); (case he => simp [hL, h0, hk1, hk2, hl0, hl0', hl1, hl1']; exact is_rfl))
    | (apply op_no; (case hw => simp [hL, h0, hk1, hk2, hl0, hl0', hl1, hl1']))
    | refine op_nil ?_ | refine next_normal ?_ | refine go_seq ?_ | refine go_region ?_ | refine go_skip ?_ | refine go_block ?_ | refine inb_normal ?_
    | (apply go_yes; (case hc => simp [hL, h0, hk1, hk2, hl0, hl0', hl1, hl1'])) | (apply go_no; (case hc => simp [hL, h0, hk1, hk2, hl0, hl0', hl1, hl1']))
    | refine go_exit ?_ | refine next_exit ?_ | refine inb_here ?_ | refine inb_past (by decide) ?_ | refine go_ret ?_ | refine next_ret ?_ | refine inb_ret ?_))
      (apply ends_ok; (case h1 => simp; exact is_rfl); (case h2 => simp; exact is_rfl))
      simp [hv]
  have hl1' : ¬ 32 < l := by omega
  by_cases hz0 : 0 ≤ z
  case neg =>
    have hz0' : z < 0 := by omega
    have hv := fail (0 ≤ z) (fun h => by unfold validI at h; rw [if_neg h0] at h; exact h.2.2.2.1) hz0
    rcases hk with hk | ⟨hk1, hk2⟩
    · (repeat (first
    | (apply is_ok; (case hw => simp [hL, h0, hk, hl0, hl0', hl1, hl1', hz0, hz0']); (case he => simp [hL, h0, hk, hl0, hl0', hl1, hl1', hz0, hz0']; exact is_rfl))
    | (apply op_no; (case hw => simp [hL, h0, hk, hl0, hl0', hl1, hl1', hz0, hz0']))
    | refine op_nil ?_ | refine next_normal ?_ | refine go_seq ?_ | refine go_region ?_ | refine go_skip ?_ | refine go_block ?_ | refine inb_normal ?_
    | (apply go_yes; (case hc => simp [hL, h0, hk, hl0, hl0', hl1, hl1', hz0, hz0'])) | (apply go_no; (case hc => simp [hL, h0, hk, hl0, hl0', hl1, hl1', hz0, hz0']))
    | refine go_exit ?_ | refine next_exit ?_ | refine inb_here ?_ | refine inb_past (by decide) ?_ | refine go_ret ?_ | refine next_ret ?_ | refine inb_ret ?_))
      (apply ends_ok; (case h1 => simp; exact is_rfl); (case h2 => simp; exact is_rfl))
      simp [hv]
    · (repeat (first
    | (apply is_ok; (case hw => simp [hL, h0, hk1, hk2, hl0, hl0', hl1, hl1', hz0, hz0']); (case he => simp [hL, h0, hk1, hk2, hl0, hl0', hl1, hl1', hz0, hz0']; exact is_rfl))
    | (apply op_no; (case hw => simp [hL, h0, hk1, hk2, hl0, hl0', hl1, hl1', hz0, hz0']))
    | refine op_nil ?_ | refine next_normal ?_ | refine go_seq ?_ | refine go_region ?_ | refine go_skip ?_ | refine go_block ?_ | refine inb_normal ?_
    | (apply go_yes; (case hc => simp [hL, h0, hk1, hk2, hl0, hl0', hl1, hl1', hz0, hz0'])) | (apply go_no; (case hc => simp [hL, h0, hk1, hk2, hl0, hl0', hl1, hl1', hz0, hz0']))
    | refine go_exit ?_ | refine next_exit ?_ | refine inb_here ?_ | refine inb_past (by decide) ?_ | refine go_ret ?_ | refine next_ret ?_ | refine inb_ret ?_))
      (apply ends_ok; (case h1 => simp; exact is_rfl); (case h2 => simp; exact is_rfl))
      simp [hv]
  have hz0' : ¬ z < 0 := by omega
  by_cases hz1 : z ≤ 1024
  case neg =>
    have hz1' : 1024 < z := by omega
    have hv := fail (z ≤ 1024) (fun h => by unfold validI at h; rw [if_neg h0] at h; exact h.2.2.2.2.1) hz1
    rcases hk with hk | ⟨hk1, hk2⟩
    · (repeat (first
    | (apply is_ok; (case hw => simp [hL, h0, hk, hl0, hl0', hl1, hl1', hz0, hz0', hz1, hz1']); (case he => simp [hL, h0, hk, hl0, hl0', hl1, hl1', hz0, hz0', hz1, hz1']; exact is_rfl))
    | (apply op_no; (case hw => simp [hL, h0, hk, hl0, hl0', hl1, hl1', hz0, hz0', hz1, hz1']))
    | refine op_nil ?_ | refine next_normal ?_ | refine go_seq ?_ | refine go_region ?_ | refine go_skip ?_ | refine go_block ?_ | refine inb_normal ?_
    | (apply go_yes; (case hc => simp [hL, h0, hk, hl0, hl0', hl1, hl1', hz0, hz0', hz1, hz1'])) | (apply go_no; (case hc => simp [hL, h0, hk, hl0, hl0', hl1, hl1', hz0, hz0', hz1, hz1']))
    | refine go_exit ?_ | refine next_exit ?_ | refine inb_here ?_ | refine inb_past (by decide) ?_ | refine go_ret ?_ | refine next_ret ?_ | refine inb_ret ?_))
      (apply ends_ok; (case h1 => simp; exact is_rfl); (case h2 => simp; exact is_rfl))
      simp [hv]
    · (repeat (first
    | (apply is_ok; (case hw => simp [hL, h0, hk1, hk2, hl0, hl0', hl1, hl1', hz0, hz0', hz1, hz1']); (case he => simp [hL, h0, hk1, hk2, hl0, hl0', hl1, hl1', hz0, hz0', hz1, hz1']; exact is_rfl))
    | (apply op_no; (case hw => simp [hL, h0, hk1, hk2, hl0, hl0', hl1, hl1', hz0, hz0', hz1, hz1']))
    | refine op_nil ?_ | refine next_normal ?_ | refine go_seq ?_ | refine go_region ?_ | refine go_skip ?_ | refine go_block ?_ | refine inb_normal ?_
    | (apply go_yes; (case hc => simp [hL, h0, hk1, hk2, hl0, hl0', hl1, hl1', hz0, hz0', hz1, hz1'])) | (apply go_no; (case hc => simp [hL, h0, hk1, hk2, hl0, hl0', hl1, hl1', hz0, hz0', hz1, hz1']))
    | refine go_exit ?_ | refine next_exit ?_ | refine inb_here ?_ | refine inb_past (by decide) ?_ | refine go_ret ?_ | refine next_ret ?_ | refine inb_ret ?_))
      (apply ends_ok; (case h1 => simp; exact is_rfl); (case h2 => simp; exact is_rfl))
      simp [hv]
  have hz1' : ¬ 1024 < z := by omega
  have hq := quo_z hz0 hz1
  have okI : (∀ i (hi : i < L.length), 0 ≤ L[i] ∧ L[i] ≤ 65535 ∧ (L[i] ≠ 0 ↔ (i : Int) < (z + 127) / 128)) ↔ validI k l z L := by
    unfold validI
    rw [if_neg h0]
    constructor
    · intro h
      exact ⟨h1, hl0, hl1, hz0, hz1, fun i hi => by
        have hi' : i < L.length := by have := List.mem_range.1 hi; omega
        have := h i hi'
        simpa [hi'] using this⟩
    · intro h i hi
      have := h.2.2.2.2.2 i (List.mem_range.2 (by omega))
      simpa [hi] using this
  generalize (z + 127) / 128 = n at hq okI
  suffices hs : ∀ (R : Bool), R = decide (validI k l z L) → Go1 DC 41 ([] : Heap).length (codeL Try.f41) (argEnv [inoV k l z L] 0) [] (Ends DC Try.f41.results.toList ([] : Heap).length fun r' h' => r' = .bool R ∧ h' = []) from hs _ rfl
  intro R hR
  dsimp only [codeL, Try.f41, scL, sopsL, guardL, dstAt, loopKey]
  have htk : (ints L).take 8 = ints L := List.take_of_length_le (by simp [hL])
  rcases hk with hk | ⟨hk1, hk2⟩
  · (repeat (first
    | (apply is_ok; (case hw => simp [hL, h0, hk, hl0, hl0', hl1, hl1', hz0, hz0', hz1, hz1', hq]); (case he => simp [hL, h0, hk, hl0, hl0', hl1, hl1', hz0, hz0', hz1, hz1', hq]; exact is_rfl))
    | (apply op_no; (case hw => simp [hL, h0, hk, hl0, hl0', hl1, hl1', hz0, hz0', hz1, hz1', hq]))
    | refine op_nil ?_ | refine next_normal ?_ | refine go_seq ?_ | refine go_region ?_ | refine go_skip ?_ | refine go_block ?_ | refine inb_normal ?_
    | (apply go_yes; (case hc => simp [hL, h0, hk, hl0, hl0', hl1, hl1', hz0, hz0', hz1, hz1', hq])) | (apply go_no; (case hc => simp [hL, h0, hk, hl0, hl0', hl1, hl1', hz0, hz0', hz1, hz1', hq]))
    | refine go_exit ?_ | refine next_exit ?_ | refine inb_here ?_ | refine inb_past (by decide) ?_ | refine go_ret ?_ | refine next_ret ?_ | refine inb_ret ?_))
    refine go_count 8 (fun i => [(3, .int .i64 n), (46, .agg (ints L)), (47, .int .i64 i)]) (fun _ => []) (fun i => ∀ j (hj : j < L.length), j < i → 0 ≤ L[j] ∧ L[j] ≤ 65535 ∧ (L[j] ≠ 0 ↔ (j : Int) < n)) (by simp [hk, htk]) (by simp) fun i hi hI => ?_
    by_cases hlt : i < 8
    · have hli : i < L.length := by omega
      have hw : IntKind.i64.wrap ((i : Int) + 1) = (i : Int) + 1 := wrap_id (by omega) (by omega)
      have hs := sub_arr hli
      have hlt' : (i : Int) < 8 := by omega
      generalize hx : L[i] = x at hs
      have ha := intOp_and x
      have fin : ¬ (0 ≤ x ∧ x ≤ 65535 ∧ (x ≠ 0 ↔ (i : Int) < n)) → R = false := fun h => by rw [hR]; exact decide_eq_false fun hv => h (by have := okI.2 hv i hli; rwa [hx] at this)
      by_cases g1 : 0 ≤ x ∧ x ≤ 65535
      case neg =>
        have g1' : ¬ x % 65536 = x := by omega
        (repeat (first
    | (apply is_ok; (case hw => simp [-sub, -intOp, hL, hlt, hlt', hs, ha, g1']); (case he => simp [-sub, -intOp, hL, hlt, hlt', hs, ha, g1']; exact is_rfl))
    | (apply op_no; (case hw => simp [-sub, -intOp, hL, hlt, hlt', hs, ha, g1']))
    | refine op_nil ?_ | refine next_normal ?_ | refine go_seq ?_ | refine go_region ?_ | refine go_skip ?_ | refine go_block ?_ | refine inb_normal ?_
    | (apply go_yes; (case hc => simp [-sub, -intOp, hL, hlt, hlt', hs, ha, g1'])) | (apply go_no; (case hc => simp [-sub, -intOp, hL, hlt, hlt', hs, ha, g1']))
    | refine go_exit ?_ | refine next_exit ?_ | refine inb_here ?_ | refine inb_past (by decide) ?_ | refine go_ret ?_ | refine next_ret ?_ | refine inb_ret ?_))
        (apply ends_ok; (case h1 => simp; exact is_rfl); (case h2 => simp; exact is_rfl))
        simp [fin (fun h => g1 ⟨h.1, h.2.1⟩)]
      have g1' : x % 65536 = x := by omega
      by_cases g3 : x = 0
      · by_cases g4 : (i : Int) < n
        · (repeat (first
    | (apply is_ok; (case hw => simp [-sub, -intOp, hL, hlt, hlt', hs, ha, g1', g3, g4]); (case he => simp [-sub, -intOp, hL, hlt, hlt', hs, ha, g1', g3, g4]; exact is_rfl))
    | (apply op_no; (case hw => simp [-sub, -intOp, hL, hlt, hlt', hs, ha, g1', g3, g4]))
    | refine op_nil ?_ | refine next_normal ?_ | refine go_seq ?_ | refine go_region ?_ | refine go_skip ?_ | refine go_block ?_ | refine inb_normal ?_
    | (apply go_yes; (case hc => simp [-sub, -intOp, hL, hlt, hlt', hs, ha, g1', g3, g4])) | (apply go_no; (case hc => simp [-sub, -intOp, hL, hlt, hlt', hs, ha, g1', g3, g4]))
    | refine go_exit ?_ | refine next_exit ?_ | refine inb_here ?_ | refine inb_past (by decide) ?_ | refine go_ret ?_ | refine next_ret ?_ | refine inb_ret ?_))
          (apply ends_ok; (case h1 => simp; exact is_rfl); (case h2 => simp; exact is_rfl))
          simp [fin (fun h => (h.2.2.2 g4) g3)]
        · (repeat (first
    | (apply is_ok; (case hw => simp [-sub, -intOp, hL, hlt, hlt', hs, ha, g1', g3, g4]); (case he => simp [-sub, -intOp, hL, hlt, hlt', hs, ha, g1', g3, g4]; exact is_rfl))
    | (apply op_no; (case hw => simp [-sub, -intOp, hL, hlt, hlt', hs, ha, g1', g3, g4]))
    | refine op_nil ?_ | refine next_normal ?_ | refine go_seq ?_ | refine go_region ?_ | refine go_skip ?_ | refine go_block ?_ | refine inb_normal ?_
    | (apply go_yes; (case hc => simp [-sub, -intOp, hL, hlt, hlt', hs, ha, g1', g3, g4])) | (apply go_no; (case hc => simp [-sub, -intOp, hL, hlt, hlt', hs, ha, g1', g3, g4]))
    | refine go_exit ?_ | refine next_exit ?_ | refine inb_here ?_ | refine inb_past (by decide) ?_ | refine go_ret ?_ | refine next_ret ?_ | refine inb_ret ?_))
          exact ⟨hlt, by simp [hw, hk], fun j hj hji => by
            by_cases hje : j = i
            · subst hje; rw [hx]; exact ⟨g1.1, g1.2, fun h => absurd g3 h, fun h => absurd h g4⟩
            · exact hI j hj (by omega)⟩
      · by_cases g4 : (i : Int) < n
        · (repeat (first
    | (apply is_ok; (case hw => simp [-sub, -intOp, hL, hlt, hlt', hs, ha, g1', g3, g4]); (case he => simp [-sub, -intOp, hL, hlt, hlt', hs, ha, g1', g3, g4]; exact is_rfl))
    | (apply op_no; (case hw => simp [-sub, -intOp, hL, hlt, hlt', hs, ha, g1', g3, g4]))
    | refine op_nil ?_ | refine next_normal ?_ | refine go_seq ?_ | refine go_region ?_ | refine go_skip ?_ | refine go_block ?_ | refine inb_normal ?_
    | (apply go_yes; (case hc => simp [-sub, -intOp, hL, hlt, hlt', hs, ha, g1', g3, g4])) | (apply go_no; (case hc => simp [-sub, -intOp, hL, hlt, hlt', hs, ha, g1', g3, g4]))
    | refine go_exit ?_ | refine next_exit ?_ | refine inb_here ?_ | refine inb_past (by decide) ?_ | refine go_ret ?_ | refine next_ret ?_ | refine inb_ret ?_))
          exact ⟨hlt, by simp [hw, hk], fun j hj hji => by
            by_cases hje : j = i
            · subst hje; rw [hx]; exact ⟨g1.1, g1.2, fun _ => g4, fun _ => g3⟩
            · exact hI j hj (by omega)⟩
        · (repeat (first
    | (apply is_ok; (case hw => simp [-sub, -intOp, hL, hlt, hlt', hs, ha, g1', g3, g4]); (case he => simp [-sub, -intOp, hL, hlt, hlt', hs, ha, g1', g3, g4]; exact is_rfl))
    | (apply op_no; (case hw => simp [-sub, -intOp, hL, hlt, hlt', hs, ha, g1', g3, g4]))
    | refine op_nil ?_ | refine next_normal ?_ | refine go_seq ?_ | refine go_region ?_ | refine go_skip ?_ | refine go_block ?_ | refine inb_normal ?_
    | (apply go_yes; (case hc => simp [-sub, -intOp, hL, hlt, hlt', hs, ha, g1', g3, g4])) | (apply go_no; (case hc => simp [-sub, -intOp, hL, hlt, hlt', hs, ha, g1', g3, g4]))
    | refine go_exit ?_ | refine next_exit ?_ | refine inb_here ?_ | refine inb_past (by decide) ?_ | refine go_ret ?_ | refine next_ret ?_ | refine inb_ret ?_))
          (apply ends_ok; (case h1 => simp; exact is_rfl); (case h2 => simp; exact is_rfl))
          simp [fin (fun h => g4 (h.2.2.1 g3))]
    · have hlt' : ¬ (i : Int) < 8 := by omega
      (repeat (first
    | (apply is_ok; (case hw => simp [hlt, hlt']); (case he => simp [hlt, hlt']; exact is_rfl))
    | (apply op_no; (case hw => simp [hlt, hlt']))
    | refine op_nil ?_ | refine next_normal ?_ | refine go_seq ?_ | refine go_region ?_ | refine go_skip ?_ | refine go_block ?_ | refine inb_normal ?_
    | (apply go_yes; (case hc => simp [hlt, hlt'])) | (apply go_no; (case hc => simp [hlt, hlt']))
    | refine go_exit ?_ | refine next_exit ?_ | refine inb_here ?_ | refine inb_past (by decide) ?_ | refine go_ret ?_ | refine next_ret ?_ | refine inb_ret ?_))
      (apply ends_ok; (case h1 => simp; exact is_rfl); (case h2 => simp; exact is_rfl))
      have : R = true := by rw [hR]; exact decide_eq_true (okI.1 fun j hj => hI j hj (by omega))
      simp [this]
  · (repeat (first
    | (apply is_ok; (case hw => simp [hL, h0, hk1, hk2, hl0, hl0', hl1, hl1', hz0, hz0', hz1, hz1', hq]); (case he => simp [hL, h0, hk1, hk2, hl0, hl0', hl1, hl1', hz0, hz0', hz1, hz1', hq]; exact is_rfl))
    | (apply op_no; (case hw => simp [hL, h0, hk1, hk2, hl0, hl0', hl1, hl1', hz0, hz0', hz1, hz1', hq]))
    | refine op_nil ?_ | refine next_normal ?_ | refine go_seq ?_ | refine go_region ?_ | refine go_skip ?_ | refine go_block ?_ | refine inb_normal ?_
    | (apply go_yes; (case hc => simp [hL, h0, hk1, hk2, hl0, hl0', hl1, hl1', hz0, hz0', hz1, hz1', hq])) | (apply go_no; (case hc => simp [hL, h0, hk1, hk2, hl0, hl0', hl1, hl1', hz0, hz0', hz1, hz1', hq]))
    | refine go_exit ?_ | refine next_exit ?_ | refine inb_here ?_ | refine inb_past (by decide) ?_ | refine go_ret ?_ | refine next_ret ?_ | refine inb_ret ?_))
    refine go_count 8 (fun i => [(3, .int .i64 n), (46, .agg (ints L)), (47, .int .i64 i)]) (fun _ => []) (fun i => ∀ j (hj : j < L.length), j < i → 0 ≤ L[j] ∧ L[j] ≤ 65535 ∧ (L[j] ≠ 0 ↔ (j : Int) < n)) (by simp [hk1, hk2, htk]) (by simp) fun i hi hI => ?_
    by_cases hlt : i < 8
    · have hli : i < L.length := by omega
      have hw : IntKind.i64.wrap ((i : Int) + 1) = (i : Int) + 1 := wrap_id (by omega) (by omega)
      have hs := sub_arr hli
      have hlt' : (i : Int) < 8 := by omega
      generalize hx : L[i] = x at hs
      have ha := intOp_and x
      have fin : ¬ (0 ≤ x ∧ x ≤ 65535 ∧ (x ≠ 0 ↔ (i : Int) < n)) → R = false := fun h => by rw [hR]; exact decide_eq_false fun hv => h (by have := okI.2 hv i hli; rwa [hx] at this)
      by_cases g1 : 0 ≤ x ∧ x ≤ 65535
      case neg =>
        have g1' : ¬ x % 65536 = x := by omega
        (repeat (first
    | (apply is_ok; (case hw => simp [-sub, -intOp, hL, hlt, hlt', hs, ha, g1']); (case he => simp [-sub, -intOp, hL, hlt, hlt', hs, ha, g1']; exact is_rfl))
    | (apply op_no; (case hw => simp [-sub, -intOp, hL, hlt, hlt', hs, ha, g1']))
    | refine op_nil ?_ | refine next_normal ?_ | refine go_seq ?_ | refine go_region ?_ | refine go_skip ?_ | refine go_block ?_ | refine inb_normal ?_
    | (apply go_yes; (case hc => simp [-sub, -intOp, hL, hlt, hlt', hs, ha, g1'])) | (apply go_no; (case hc => simp [-sub, -intOp, hL, hlt, hlt', hs, ha, g1']))
    | refine go_exit ?_ | refine next_exit ?_ | refine inb_here ?_ | refine inb_past (by decide) ?_ | refine go_ret ?_ | refine next_ret ?_ | refine inb_ret ?_))
        (apply ends_ok; (case h1 => simp; exact is_rfl); (case h2 => simp; exact is_rfl))
        simp [fin (fun h => g1 ⟨h.1, h.2.1⟩)]
      have g1' : x % 65536 = x := by omega
      by_cases g3 : x = 0
      · by_cases g4 : (i : Int) < n
        · (repeat (first
    | (apply is_ok; (case hw => simp [-sub, -intOp, hL, hlt, hlt', hs, ha, g1', g3, g4]); (case he => simp [-sub, -intOp, hL, hlt, hlt', hs, ha, g1', g3, g4]; exact is_rfl))
    | (apply op_no; (case hw => simp [-sub, -intOp, hL, hlt, hlt', hs, ha, g1', g3, g4]))
    | refine op_nil ?_ | refine next_normal ?_ | refine go_seq ?_ | refine go_region ?_ | refine go_skip ?_ | refine go_block ?_ | refine inb_normal ?_
    | (apply go_yes; (case hc => simp [-sub, -intOp, hL, hlt, hlt', hs, ha, g1', g3, g4])) | (apply go_no; (case hc => simp [-sub, -intOp, hL, hlt, hlt', hs, ha, g1', g3, g4]))
    | refine go_exit ?_ | refine next_exit ?_ | refine inb_here ?_ | refine inb_past (by decide) ?_ | refine go_ret ?_ | refine next_ret ?_ | refine inb_ret ?_))
          (apply ends_ok; (case h1 => simp; exact is_rfl); (case h2 => simp; exact is_rfl))
          simp [fin (fun h => (h.2.2.2 g4) g3)]
        · (repeat (first
    | (apply is_ok; (case hw => simp [-sub, -intOp, hL, hlt, hlt', hs, ha, g1', g3, g4]); (case he => simp [-sub, -intOp, hL, hlt, hlt', hs, ha, g1', g3, g4]; exact is_rfl))
    | (apply op_no; (case hw => simp [-sub, -intOp, hL, hlt, hlt', hs, ha, g1', g3, g4]))
    | refine op_nil ?_ | refine next_normal ?_ | refine go_seq ?_ | refine go_region ?_ | refine go_skip ?_ | refine go_block ?_ | refine inb_normal ?_
    | (apply go_yes; (case hc => simp [-sub, -intOp, hL, hlt, hlt', hs, ha, g1', g3, g4])) | (apply go_no; (case hc => simp [-sub, -intOp, hL, hlt, hlt', hs, ha, g1', g3, g4]))
    | refine go_exit ?_ | refine next_exit ?_ | refine inb_here ?_ | refine inb_past (by decide) ?_ | refine go_ret ?_ | refine next_ret ?_ | refine inb_ret ?_))
          exact ⟨hlt, by simp [hw, hk1, hk2], fun j hj hji => by
            by_cases hje : j = i
            · subst hje; rw [hx]; exact ⟨g1.1, g1.2, fun h => absurd g3 h, fun h => absurd h g4⟩
            · exact hI j hj (by omega)⟩
      · by_cases g4 : (i : Int) < n
        · (repeat (first
    | (apply is_ok; (case hw => simp [-sub, -intOp, hL, hlt, hlt', hs, ha, g1', g3, g4]); (case he => simp [-sub, -intOp, hL, hlt, hlt', hs, ha, g1', g3, g4]; exact is_rfl))
    | (apply op_no; (case hw => simp [-sub, -intOp, hL, hlt, hlt', hs, ha, g1', g3, g4]))
    | refine op_nil ?_ | refine next_normal ?_ | refine go_seq ?_ | refine go_region ?_ | refine go_skip ?_ | refine go_block ?_ | refine inb_normal ?_
    | (apply go_yes; (case hc => simp [-sub, -intOp, hL, hlt, hlt', hs, ha, g1', g3, g4])) | (apply go_no; (case hc => simp [-sub, -intOp, hL, hlt, hlt', hs, ha, g1', g3, g4]))
    | refine go_exit ?_ | refine next_exit ?_ | refine inb_here ?_ | refine inb_past (by decide) ?_ | refine go_ret ?_ | refine next_ret ?_ | refine inb_ret ?_))
          exact ⟨hlt, by simp [hw, hk1, hk2], fun j hj hji => by
            by_cases hje : j = i
            · subst hje; rw [hx]; exact ⟨g1.1, g1.2, fun _ => g4, fun _ => g3⟩
            · exact hI j hj (by omega)⟩
        · (repeat (first
    | (apply is_ok; (case hw => simp [-sub, -intOp, hL, hlt, hlt', hs, ha, g1', g3, g4]); (case he => simp [-sub, -intOp, hL, hlt, hlt', hs, ha, g1', g3, g4]; exact is_rfl))
    | (apply op_no; (case hw => simp [-sub, -intOp, hL, hlt, hlt', hs, ha, g1', g3, g4]))
    | refine op_nil ?_ | refine next_normal ?_ | refine go_seq ?_ | refine go_region ?_ | refine go_skip ?_ | refine go_block ?_ | refine inb_normal ?_
    | (apply go_yes; (case hc => simp [-sub, -intOp, hL, hlt, hlt', hs, ha, g1', g3, g4])) | (apply go_no; (case hc => simp [-sub, -intOp, hL, hlt, hlt', hs, ha, g1', g3, g4]))
    | refine go_exit ?_ | refine next_exit ?_ | refine inb_here ?_ | refine inb_past (by decide) ?_ | refine go_ret ?_ | refine next_ret ?_ | refine inb_ret ?_))
          (apply ends_ok; (case h1 => simp; exact is_rfl); (case h2 => simp; exact is_rfl))
          simp [fin (fun h => g4 (h.2.2.1 g3))]
    · have hlt' : ¬ (i : Int) < 8 := by omega
      (repeat (first
    | (apply is_ok; (case hw => simp [hlt, hlt']); (case he => simp [hlt, hlt']; exact is_rfl))
    | (apply op_no; (case hw => simp [hlt, hlt']))
    | refine op_nil ?_ | refine next_normal ?_ | refine go_seq ?_ | refine go_region ?_ | refine go_skip ?_ | refine go_block ?_ | refine inb_normal ?_
    | (apply go_yes; (case hc => simp [hlt, hlt'])) | (apply go_no; (case hc => simp [hlt, hlt']))
    | refine go_exit ?_ | refine next_exit ?_ | refine inb_here ?_ | refine inb_past (by decide) ?_ | refine go_ret ?_ | refine next_ret ?_ | refine inb_ret ?_))
      (apply ends_ok; (case h1 => simp; exact is_rfl); (case h2 => simp; exact is_rfl))
      have : R = true := by rw [hR]; exact decide_eq_true (okI.1 fun j hj => hI j hj (by omega))
      simp [this]
end Go.Abs
