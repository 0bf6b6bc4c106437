/- Proved here: what functions of the program compute, over the evaluator. No condition but those that each theorem states. -/
import Derived.Test.YtpffmpllnpmkbaaE2
import Derived.Test.YtpffmpllnpmkbaaA6
namespace Go.Abs
open Go.Proofs
set_option maxRecDepth 100000
set_option linter.unusedSimpArgs false
set_option linter.unusedVariables false

theorem eqL_ino (k l z k' l' z' : Int) (L M : List Int) (hL : L.length = 8) (hM : M.length = 8) :
    eqL Try.prog 10000 24 (.int .i64 k :: .int .i64 l :: .int .i64 z :: ints L) (.int .i64 k' :: .int .i64 l' :: .int .i64 z' :: ints M) = some (decide (k = k' ∧ l = l' ∧ z = z' ∧ L = M)) := by
  have s1 : Try.prog.stoodInHeld 24 = false := by kernel_rfl
  have o1 : okT Try.prog 3 = true := by kernel_rfl
  have o2 : okT Try.prog 22 = true := by kernel_rfl
  have z1 : sizeL Try.prog 3 = 1 := by kernel_rfl
  have z2 : sizeL Try.prog 22 = 8 := by kernel_rfl
  match L, hL, M, hM with
  | [a, b, c, d, e, f, g, h], _, [a', b', c', d', e', f', g', h'], _ =>
    rw [show (10000 : Nat) = 9997 + 3 from rfl]
    generalize 9997 = n
    simp [eqL, eqFs, eqNs, s1, o1, o2, z1, z2, List.range_succ, Try.underlying24, Try.underlying22, Try.underlying3]
    rfl

theorem eq_ino (k l z k' l' z' : Int) (L M : List Int) (hL : L.length = 8) (hM : M.length = 8) :
    binV Try.prog .eql 24 (inoV k l z L) (inoV k' l' z' M) = some (.bool (decide (k = k' ∧ l = l' ∧ z = z' ∧ L = M))) ∧ binV Try.prog .neq 24 (inoV k l z L) (inoV k' l' z' M) = some (.bool (!decide (k = k' ∧ l = l' ∧ z = z' ∧ L = M))) := by
  have he := eqL_ino k l z k' l' z' L M hL hM
  match L, hL, M, hM with
  | [a, b, c, d, e, f, g, h], _, [a', b', c', d', e', f', g', h'], _ => exact binV_agg (d := 10000) rfl (by kernel_rfl) (by kernel_rfl) rfl rfl he

def validI (k l z : Int) (L : List Int) : Prop := if k = 0 then l = 0 ∧ z = 0 ∧ L = List.replicate 8 0
  else (k = 1 ∨ k = 2) ∧ 0 ≤ l ∧ l ≤ 32 ∧ 0 ≤ z ∧ z ≤ 1024 ∧ ∀ i ∈ List.range 8, 0 ≤ L.getD i 0 ∧ L.getD i 0 ≤ 65535 ∧ (L.getD i 0 ≠ 0 ↔ (i : Int) < (z + 127) / 128)
instance (k l z : Int) (L : List Int) : Decidable (validI k l z L) := by unfold validI; infer_instance

theorem sub_ino {k l z : Int} {L : List Int} {i : Nat} (h : i < L.length) : sub Try.prog 3 (.agg (.int .i64 k :: .int .i64 l :: .int .i64 z :: ints L)) (3 + i) = some (.int .i64 (L[i]'h)) := by
  unfold sub
  have e : ((V.int .i64 k :: .int .i64 l :: .int .i64 z :: ints L).drop (3 + i)).take 1 = [.int .i64 (L[i]'h)] := by
    rw [show 3 + i = i + 1 + 1 + 1 by omega]
    simp only [List.drop_succ_cons]
    rw [List.drop_eq_getElem_cons (by simpa using h)]
    simp
  simp only [inf3, Option.map_some, tsz3, cells_agg, e]
  rw [if_neg (by omega), if_pos (by simp; omega)]
  simp [mk]
theorem sub_arr {L : List Int} {i : Nat} (h : i < L.length) : sub Try.prog 3 (.agg (ints L)) i = some (.int .i64 (L[i]'h)) := by
  unfold sub
  have e : ((ints L).drop i).take 1 = [.int .i64 (L[i]'h)] := by
    rw [List.drop_eq_getElem_cons (by simpa using h)]
    simp
  simp only [inf3, Option.map_some, tsz3, cells_agg, e]
  rw [if_neg (by simp), if_pos (by simp; omega)]
  simp [mk]

theorem quo_z {z : Int} (h0 : 0 ≤ z) (h1 : z ≤ 1024) : IntKind.i64.wrap ((IntKind.i64.wrap (IntKind.i64.wrap (z + 128) - 1)).tdiv 128) = (z + 127) / 128 := by
  rw [wrap_id (x := z + 128) (by omega) (by omega), wrap_id (x := z + 128 - 1) (by omega) (by omega), Int.tdiv_eq_ediv_of_nonneg (by omega), wrap_id (by omega) (by omega)]
  congr 1
  omega

set_option maxHeartbeats 4000000 in
theorem ValidR_eq (k l z : Int) (L : List Int) (hL : L.length = 8) (hL8 : In64 L) : bodyW DC 43 [inoV k l z L] [] = some (.bool (decide (validI k l z L)), []) := by
  have h8 := (eq_ino k l z 0 0 0 L (List.replicate 8 0) hL rfl).1
  simp only [inoV, ints, List.replicate, List.map_cons, List.map_nil] at h8
  (refine gives_iff ?_; refine go_func Try.f43 rfl rfl (by simp [Try.f43]) ?_; dsimp only [codeL, Try.f43, scL, sopsL, guardL, dstAt, loopKey])
  by_cases h0 : k = 0
  · subst h0
    (repeat (first
    | (apply is_ok; (case hw => simp [hL]); (case he => simp [hL]; exact is_rfl))
    | (apply op_no; (case hw => simp [hL]))
    | refine op_nil ?_ | refine next_normal ?_ | refine go_seq ?_ | refine go_region ?_ | refine go_skip ?_ | refine go_block ?_ | refine inb_normal ?_
    | (apply go_yes; (case hc => simp [hL])) | (apply go_no; (case hc => simp [hL]))
    | refine go_exit ?_ | refine next_exit ?_ | refine inb_here ?_ | refine inb_past (by decide) ?_ | refine go_ret ?_ | refine next_ret ?_ | refine inb_ret ?_))
    (repeat (first
    | (apply is_ok; (case hw => simp [-binV, h8]); (case he => simp [-binV, h8]; exact is_rfl))
    | (apply op_no; (case hw => simp [-binV, h8]))
    | refine op_nil ?_ | refine next_normal ?_ | refine go_seq ?_ | refine go_region ?_ | refine go_skip ?_ | refine go_block ?_ | refine inb_normal ?_
    | (apply go_yes; (case hc => simp [-binV, h8])) | (apply go_no; (case hc => simp [-binV, h8]))
    | refine go_exit ?_ | refine next_exit ?_ | refine inb_here ?_ | refine inb_past (by decide) ?_ | refine go_ret ?_ | refine next_ret ?_ | refine inb_ret ?_))
    (apply ends_ok; (case h1 => simp; exact is_rfl); (case h2 => simp; exact is_rfl))
    simp [validI, List.replicate]
  by_cases h1 : k = 1 ∨ k = 2
  case neg =>
    have h2 : ¬ k = 1 := fun h => h1 (.inl h)
    have h3 : ¬ k = 2 := fun h => h1 (.inr h)
    (repeat (first
    | (apply is_ok; (case hw => simp [hL, h0, h2, h3]); (case he => simp [hL, h0, h2, h3]; exact is_rfl))
    | (apply op_no; (case hw => simp [hL, h0, h2, h3]))
    | refine op_nil ?_ | refine next_normal ?_ | refine go_seq ?_ | refine go_region ?_ | refine go_skip ?_ | refine go_block ?_ | refine inb_normal ?_
    | (apply go_yes; (case hc => simp [hL, h0, h2, h3])) | (apply go_no; (case hc => simp [hL, h0, h2, h3]))
    | refine go_exit ?_ | refine next_exit ?_ | refine inb_here ?_ | refine inb_past (by decide) ?_ | refine go_ret ?_ | refine next_ret ?_ | refine inb_ret ?_))
    (apply ends_ok; (case h1 => simp; exact is_rfl); (case h2 => simp; exact is_rfl))
    simp [validI, h0, h2, h3]
  have hk : (k = 1) ∨ (¬ k = 1 ∧ k = 2) := by omega
  have fail : ∀ (P : Prop), (validI k l z L → P) → ¬ P → ¬ validI k l z L := fun P h1 h2 h => h2 (h1 h)
  by_cases hl0 : 0 ≤ l
  case neg =>
    have hl0' : l < 0 := by omega
    have hv := fail (0 ≤ l) (fun h => by unfold validI at h; rw [if_neg h0] at h; exact h.2.1) hl0
    rcases hk with hk | ⟨hk1, hk2⟩
    · (repeat (first
    | (apply is_ok; (case hw => simp [hL, h0, hk, hl0, hl0']); (case he => simp [hL, h0, hk, hl0, hl0']; exact is_rfl))
    | (apply op_no; (case hw => simp [hL, h0, hk, hl0, hl0']))
    | refine op_nil ?_ | refine next_normal ?_ | refine go_seq ?_ | refine go_region ?_ | refine go_skip ?_ | refine go_block ?_ | refine inb_normal ?_
    | (apply go_yes; (case hc => simp [hL, h0, hk, hl0, hl0'])) | (apply go_no; (case hc => simp [hL, h0, hk, hl0, hl0']))
    | refine go_exit ?_ | refine next_exit ?_ | refine inb_here ?_ | refine inb_past (by decide) ?_ | refine go_ret ?_ | refine next_ret ?_ | refine inb_ret ?_))
      (apply ends_ok; (case h1 => simp; exact is_rfl); (case h2 => simp; exact is_rfl))
      simp [hv]
    · (repeat (first
    | (apply is_ok; (case hw => simp [hL, h0, hk1, hk2, hl0, hl0']); (case he => simp [hL, h0, hk1, hk2, hl0, hl0']; exact is_rfl))
    | (apply op_no; (case hw => simp [hL, h0, hk1, hk2, hl0, hl0']))
    | refine op_nil ?_ | refine next_normal ?_ | refine go_seq ?_ | refine go_region ?_ | refine go_skip ?_ | refine go_block ?_ | refine inb_normal ?_
    | (apply go_yes; (case hc => simp [hL, h0, hk1, hk2, hl0, hl0'])) | (apply go_no; (case hc => simp [hL, h0, hk1, hk2, hl0, hl0']))
    | refine go_exit ?_ | refine next_exit ?_ | refine inb_here ?_ | refine inb_past (by decide) ?_ | refine go_ret ?_ | refine next_ret ?_ | refine inb_ret ?_))
      (apply ends_ok; (case h1 => simp; exact is_rfl); (case h2 => simp; exact is_rfl))
      simp [hv]
  have hl0' : ¬ l < 0 := by omega
  by_cases hl1 : l ≤ 32
  case neg =>
    have hl1' : 32 < l := by omega
    have hv := fail (l ≤ 32) (fun h => by unfold validI at h; rw [if_neg h0] at h; exact h.2.2.1) hl1
    rcases hk with hk | ⟨hk1, hk2⟩
    · (repeat (first
    | (apply is_ok; (case hw => simp [hL, h0, hk, hl0, hl0', hl1, hl1']); (case he => simp [hL, h0, hk, hl0, hl0', hl1, hl1']; exact is_rfl))
    | (apply op_no; (case hw => simp [hL, h0, hk, hl0, hl0', hl1, hl1']))
    | refine op_nil ?_ | refine next_normal ?_ | refine go_seq ?_ | refine go_region ?_ | refine go_skip ?_ | refine go_block ?_ | refine inb_normal ?_
    | (apply go_yes; (case hc => simp [hL, h0, hk, hl0, hl0', hl1, hl1'])) | (apply go_no; (case hc => simp [hL, h0, hk, hl0, hl0', hl1, hl1']))
    | refine go_exit ?_ | refine next_exit ?_ | refine inb_here ?_ | refine inb_past (by decide) ?_ | refine go_ret ?_ | refine next_ret ?_ | refine inb_ret ?_))
      (apply ends_ok; (case h1 => simp; exact is_rfl); (case h2 => simp; exact is_rfl))
      simp [hv]
    · (repeat (first
    | (apply is_ok; (case hw => simp [hL, h0, hk1, hk2, hl0, hl0', hl1, hl1']); (case he => simp [hL, h0, hk1, hk2, hl0, hl0', hl1, hl1']; exact is_rfl))
    | (apply op_no; (case hw => simp [hL, h0, hk1, hk2, hl0, hl0', hl1, hl1']))
    | refine op_nil ?_ | refine next_normal ?_ | refine go_seq ?_ | refine go_region ?_ | refine go_skip ?_ | refine go_block ?_ | refine inb_normal ?_
    | (apply go_yes; (case hc => simp [hL, h0, hk1, hk2, hl0, hl0', hl1, hl1'])) | (apply go_no; (case hc => simp [hL, h0, hk1, hk2, hl0, hl0', hl1, hl1']))
    | refine go_exit ?_ | refine next_exit ?_ | refine inb_here ?_ | refine inb_past (by decide) ?_ | refine go_ret ?_ | refine next_ret ?_ | refine inb_ret ?_))
      (apply ends_ok; (case h1 => simp; exact is_rfl); (case h2 => simp; exact is_rfl))
      simp [hv]
  have hl1' : ¬ 32 < l := by omega
  by_cases hz0 : 0 ≤ z
  case neg =>
    have hz0' : z < 0 := by omega
    have hv := fail (0 ≤ z) (fun h => by unfold validI at h; rw [if_neg h0] at h; exact h.2.2.2.1) hz0
    rcases hk with hk | ⟨hk1, hk2⟩
    · (repeat (first
    | (apply is_ok; (case hw => simp [hL, h0, hk, hl0, hl0', hl1, hl1', hz0, hz0']); (case he => simp [hL, h0, hk, hl0, hl0', hl1, hl1', hz0, hz0']; exact is_rfl))
    | (apply op_no; (case hw => simp [hL, h0, hk, hl0, hl0', hl1, hl1', hz0, hz0']))
    | refine op_nil ?_ | refine next_normal ?_ | refine go_seq ?_ | refine go_region ?_ | refine go_skip ?_ | refine go_block ?_ | refine inb_normal ?_
    | (apply go_yes; (case hc => simp [hL, h0, hk, hl0, hl0', hl1, hl1', hz0, hz0'])) | (apply go_no; (case hc => simp [hL, h0, hk, hl0, hl0', hl1, hl1', hz0, hz0']))
    | refine go_exit ?_ | refine next_exit ?_ | refine inb_here ?_ | refine inb_past (by decide) ?_ | refine go_ret ?_ | refine next_ret ?_ | refine inb_ret ?_))
      (apply ends_ok; (case h1 => simp; exact is_rfl); (case h2 => simp; exact is_rfl))
      simp [hv]
    · (repeat (first
    | (apply is_ok; (case hw => simp [hL, h0, hk1, hk2, hl0, hl0', hl1, hl1', hz0, hz0']); (case he => simp [hL, h0, hk1, hk2, hl0, hl0', hl1, hl1', hz0, hz0']; exact is_rfl))
    | (apply op_no; (case hw => simp [hL, h0, hk1, hk2, hl0, hl0', hl1, hl1', hz0, hz0']))
    | refine op_nil ?_ | refine next_normal ?_ | refine go_seq ?_ | refine go_region ?_ | refine go_skip ?_ | refine go_block ?_ | refine inb_normal ?_
    | (apply go_yes; (case hc => simp [hL, h0, hk1, hk2, hl0, hl0', hl1, hl1', hz0, hz0'])) | (apply go_no; (case hc => simp [hL, h0, hk1, hk2, hl0, hl0', hl1, hl1', hz0, hz0']))
    | refine go_exit ?_ | refine next_exit ?_ | refine inb_here ?_ | refine inb_past (by decide) ?_ | refine go_ret ?_ | refine next_ret ?_ | refine inb_ret ?_))
      (apply ends_ok; (case h1 => simp; exact is_rfl); (case h2 => simp; exact is_rfl))
      simp [hv]
  have hz0' : ¬ z < 0 := by omega
  by_cases hz1 : z ≤ 1024
  case neg =>
    have hz1' : 1024 < z := by omega
    have hv := fail (z ≤ 1024) (fun h => by unfold validI at h; rw [if_neg h0] at h; exact h.2.2.2.2.1) hz1
    rcases hk with hk | ⟨hk1, hk2⟩
    · (repeat (first
    | (apply is_ok; (case hw => simp [hL, h0, hk, hl0, hl0', hl1, hl1', hz0, hz0', hz1, hz1']); (case he => simp [hL, h0, hk, hl0, hl0', hl1, hl1', hz0, hz0', hz1, hz1']; exact is_rfl))
    | (apply op_no; (case hw => simp [hL, h0, hk, hl0, hl0', hl1, hl1', hz0, hz0', hz1, hz1']))
    | refine op_nil ?_ | refine next_normal ?_ | refine go_seq ?_ | refine go_region ?_ | refine go_skip ?_ | refine go_block ?_ | refine inb_normal ?_
    | (apply go_yes; (case hc => simp [hL, h0, hk, hl0, hl0', hl1, hl1', hz0, hz0', hz1, hz1'])) | (apply go_no; (case hc => simp [hL, h0, hk, hl0, hl0', hl1, hl1', hz0, hz0', hz1, hz1']))
    | refine go_exit ?_ | refine next_exit ?_ | refine inb_here ?_ | refine inb_past (by decide) ?_ | refine go_ret ?_ | refine next_ret ?_ | refine inb_ret ?_))
      (apply ends_ok; (case h1 => simp; exact is_rfl); (case h2 => simp; exact is_rfl))
      simp [hv]
    · (repeat (first
    | (apply is_ok; (case hw => simp [hL, h0, hk1, hk2, hl0, hl0', hl1, hl1', hz0, hz0', hz1, hz1']); (case he => simp [hL, h0, hk1, hk2, hl0, hl0', hl1, hl1', hz0, hz0', hz1, hz1']; exact is_rfl))
    | (apply op_no; (case hw => simp [hL, h0, hk1, hk2, hl0, hl0', hl1, hl1', hz0, hz0', hz1, hz1']))
    | refine op_nil ?_ | refine next_normal ?_ | refine go_seq ?_ | refine go_region ?_ | refine go_skip ?_ | refine go_block ?_ | refine inb_normal ?_
    | (apply go_yes; (case hc => simp [hL, h0, hk1, hk2, hl0, hl0', hl1, hl1', hz0, hz0', hz1, hz1'])) | (apply go_no; (case hc => simp [hL, h0, hk1, hk2, hl0, hl0', hl1, hl1', hz0, hz0', hz1, hz1']))
    | refine go_exit ?_ | refine next_exit ?_ | refine inb_here ?_ | refine inb_past (by decide) ?_ | refine go_ret ?_ | refine next_ret ?_ | refine inb_ret ?_))
      (apply ends_ok; (case h1 => simp; exact is_rfl); (case h2 => simp; exact is_rfl))
      simp [hv]
  have hz1' : ¬ 1024 < z := by omega
  have hq := quo_z hz0 hz1
  have okI : (∀ i (hi : i < L.length), 0 ≤ L[i] ∧ L[i] ≤ 65535 ∧ (L[i] ≠ 0 ↔ (i : Int) < (z + 127) / 128)) ↔ validI k l z L := by
    unfold validI
    rw [if_neg h0]
    constructor
    · intro h
      exact ⟨h1, hl0, hl1, hz0, hz1, fun i hi => by
        have hi' : i < L.length := by have := List.mem_range.1 hi; omega
        have := h i hi'
        simpa [hi'] using this⟩
    · intro h i hi
      have := h.2.2.2.2.2 i (List.mem_range.2 (by omega))
      simpa [hi] using this
  generalize (z + 127) / 128 = n at hq okI
  suffices hs : ∀ (R : Bool), R = decide (validI k l z L) → Go1 DC 43 ([] : Heap).length (codeL Try.f43) (argEnv [inoV k l z L] 0) [] (Ends DC Try.f43.results.toList ([] : Heap).length fun r' h' => r' = .bool R ∧ h' = []) from hs _ rfl
  intro R hR
  dsimp only [codeL, Try.f43, scL, sopsL, guardL, dstAt, loopKey]
  rcases hk with hk | ⟨hk1, hk2⟩
  · (repeat (first
    | (apply is_ok; (case hw => simp [hL, h0, hk, hl0, hl0', hl1, hl1', hz0, hz0', hz1, hz1', hq]); (case he => simp [hL, h0, hk, hl0, hl0', hl1, hl1', hz0, hz0', hz1, hz1', hq]; exact is_rfl))
    | (apply op_no; (case hw => simp [hL, h0, hk, hl0, hl0', hl1, hl1', hz0, hz0', hz1, hz1', hq]))
    | refine op_nil ?_ | refine next_normal ?_ | refine go_seq ?_ | refine go_region ?_ | refine go_skip ?_ | refine go_block ?_ | refine inb_normal ?_
    | (apply go_yes; (case hc => simp [hL, h0, hk, hl0, hl0', hl1, hl1', hz0, hz0', hz1, hz1', hq])) | (apply go_no; (case hc => simp [hL, h0, hk, hl0, hl0', hl1, hl1', hz0, hz0', hz1, hz1', hq]))
    | refine go_exit ?_ | refine next_exit ?_ | refine inb_here ?_ | refine inb_past (by decide) ?_ | refine go_ret ?_ | refine next_ret ?_ | refine inb_ret ?_))
    refine go_count 8 (fun i => [(1, .ptr 0 1 0 0), (3, .int .i64 n), (4, .int .i64 i)]) (fun _ => [.box (inoV k l z L)]) (fun i => ∀ j (hj : j < L.length), j < i → 0 ≤ L[j] ∧ L[j] ≤ 65535 ∧ (L[j] ≠ 0 ↔ (j : Int) < n)) (by simp [hk]) (by simp) fun i hi hI => ?_
    by_cases hlt : i < 8
    · have hli : i < L.length := by omega
      have hw : IntKind.i64.wrap ((i : Int) + 1) = (i : Int) + 1 := wrap_id (by omega) (by omega)
      have hs := sub_ino (k := k) (l := l) (z := z) hli
      have hlt' : (i : Int) < 8 := by omega
      generalize hx : L[i] = x at hs
      have fin : ¬ (0 ≤ x ∧ x ≤ 65535 ∧ (x ≠ 0 ↔ (i : Int) < n)) → R = false := fun h => by rw [hR]; exact decide_eq_false fun hv => h (by have := okI.2 hv i hli; rwa [hx] at this)
      by_cases g1 : 0 ≤ x
      case neg =>
        have g1' : x < 0 := by omega
        (repeat (first
    | (apply is_ok; (case hw => simp [-sub, hL, hlt, hlt', hs, g1, g1']); (case he => simp [-sub, hL, hlt, hlt', hs, g1, g1']; exact is_rfl))
    | (apply op_no; (case hw => simp [-sub, hL, hlt, hlt', hs, g1, g1']))
    | refine op_nil ?_ | refine next_normal ?_ | refine go_seq ?_ | refine go_region ?_ | refine go_skip ?_ | refine go_block ?_ | refine inb_normal ?_
    | (apply go_yes; (case hc => simp [-sub, hL, hlt, hlt', hs, g1, g1'])) | (apply go_no; (case hc => simp [-sub, hL, hlt, hlt', hs, g1, g1']))
    | refine go_exit ?_ | refine next_exit ?_ | refine inb_here ?_ | refine inb_past (by decide) ?_ | refine go_ret ?_ | refine next_ret ?_ | refine inb_ret ?_))
        (apply ends_ok; (case h1 => simp; exact is_rfl); (case h2 => simp; exact is_rfl))
        simp [fin (fun h => g1 h.1)]
      have g1' : ¬ x < 0 := by omega
      by_cases g2 : x ≤ 65535
      case neg =>
        have g2' : 65535 < x := by omega
        (repeat (first
    | (apply is_ok; (case hw => simp [-sub, hL, hlt, hlt', hs, g1, g1', g2, g2']); (case he => simp [-sub, hL, hlt, hlt', hs, g1, g1', g2, g2']; exact is_rfl))
    | (apply op_no; (case hw => simp [-sub, hL, hlt, hlt', hs, g1, g1', g2, g2']))
    | refine op_nil ?_ | refine next_normal ?_ | refine go_seq ?_ | refine go_region ?_ | refine go_skip ?_ | refine go_block ?_ | refine inb_normal ?_
    | (apply go_yes; (case hc => simp [-sub, hL, hlt, hlt', hs, g1, g1', g2, g2'])) | (apply go_no; (case hc => simp [-sub, hL, hlt, hlt', hs, g1, g1', g2, g2']))
    | refine go_exit ?_ | refine next_exit ?_ | refine inb_here ?_ | refine inb_past (by decide) ?_ | refine go_ret ?_ | refine next_ret ?_ | refine inb_ret ?_))
        (apply ends_ok; (case h1 => simp; exact is_rfl); (case h2 => simp; exact is_rfl))
        simp [fin (fun h => g2 h.2.1)]
      have g2' : ¬ 65535 < x := by omega
      by_cases g3 : x = 0
      · by_cases g4 : (i : Int) < n
        · (repeat (first
    | (apply is_ok; (case hw => simp [-sub, hL, hlt, hlt', hs, g1, g1', g2, g2', g3, g4]); (case he => simp [-sub, hL, hlt, hlt', hs, g1, g1', g2, g2', g3, g4]; exact is_rfl))
    | (apply op_no; (case hw => simp [-sub, hL, hlt, hlt', hs, g1, g1', g2, g2', g3, g4]))
    | refine op_nil ?_ | refine next_normal ?_ | refine go_seq ?_ | refine go_region ?_ | refine go_skip ?_ | refine go_block ?_ | refine inb_normal ?_
    | (apply go_yes; (case hc => simp [-sub, hL, hlt, hlt', hs, g1, g1', g2, g2', g3, g4])) | (apply go_no; (case hc => simp [-sub, hL, hlt, hlt', hs, g1, g1', g2, g2', g3, g4]))
    | refine go_exit ?_ | refine next_exit ?_ | refine inb_here ?_ | refine inb_past (by decide) ?_ | refine go_ret ?_ | refine next_ret ?_ | refine inb_ret ?_))
          (apply ends_ok; (case h1 => simp; exact is_rfl); (case h2 => simp; exact is_rfl))
          simp [fin (fun h => (h.2.2.2 g4) g3)]
        · (repeat (first
    | (apply is_ok; (case hw => simp [-sub, hL, hlt, hlt', hs, g1, g1', g2, g2', g3, g4]); (case he => simp [-sub, hL, hlt, hlt', hs, g1, g1', g2, g2', g3, g4]; exact is_rfl))
    | (apply op_no; (case hw => simp [-sub, hL, hlt, hlt', hs, g1, g1', g2, g2', g3, g4]))
    | refine op_nil ?_ | refine next_normal ?_ | refine go_seq ?_ | refine go_region ?_ | refine go_skip ?_ | refine go_block ?_ | refine inb_normal ?_
    | (apply go_yes; (case hc => simp [-sub, hL, hlt, hlt', hs, g1, g1', g2, g2', g3, g4])) | (apply go_no; (case hc => simp [-sub, hL, hlt, hlt', hs, g1, g1', g2, g2', g3, g4]))
    | refine go_exit ?_ | refine next_exit ?_ | refine inb_here ?_ | refine inb_past (by decide) ?_ | refine go_ret ?_ | refine next_ret ?_ | refine inb_ret ?_))
          exact ⟨hlt, by simp [hw, hk], fun j hj hji => by
            by_cases hje : j = i
            · subst hje; rw [hx]; exact ⟨g1, g2, fun h => absurd g3 h, fun h => absurd h g4⟩
            · exact hI j hj (by omega)⟩
      · by_cases g4 : (i : Int) < n
        · (repeat (first
    | (apply is_ok; (case hw => simp [-sub, hL, hlt, hlt', hs, g1, g1', g2, g2', g3, g4]); (case he => simp [-sub, hL, hlt, hlt', hs, g1, g1', g2, g2', g3, g4]; exact is_rfl))
    | (apply op_no; (case hw => simp [-sub, hL, hlt, hlt', hs, g1, g1', g2, g2', g3, g4]))
    | refine op_nil ?_ | refine next_normal ?_ | refine go_seq ?_ | refine go_region ?_ | refine go_skip ?_ | refine go_block ?_ | refine inb_normal ?_
    | (apply go_yes; (case hc => simp [-sub, hL, hlt, hlt', hs, g1, g1', g2, g2', g3, g4])) | (apply go_no; (case hc => simp [-sub, hL, hlt, hlt', hs, g1, g1', g2, g2', g3, g4]))
    | refine go_exit ?_ | refine next_exit ?_ | refine inb_here ?_ | refine inb_past (by decide) ?_ | refine go_ret ?_ | refine next_ret ?_ | refine inb_ret ?_))
          exact ⟨hlt, by simp [hw, hk], fun j hj hji => by
            by_cases hje : j = i
            · subst hje; rw [hx]; exact ⟨g1, g2, fun _ => g4, fun _ => g3⟩
            · exact hI j hj (by omega)⟩
        · (repeat (first
    | (apply is_ok; (case hw => simp [-sub, hL, hlt, hlt', hs, g1, g1', g2, g2', g3, g4]); (case he => simp [-sub, hL, hlt, hlt', hs, g1, g1', g2, g2', g3, g4]; exact is_rfl))
    | (apply op_no; (case hw => simp [-sub, hL, hlt, hlt', hs, g1, g1', g2, g2', g3, g4]))
    | refine op_nil ?_ | refine next_normal ?_ | refine go_seq ?_ | refine go_region ?_ | refine go_skip ?_ | refine go_block ?_ | refine inb_normal ?_
    | (apply go_yes; (case hc => simp [-sub, hL, hlt, hlt', hs, g1, g1', g2, g2', g3, g4])) | (apply go_no; (case hc => simp [-sub, hL, hlt, hlt', hs, g1, g1', g2, g2', g3, g4]))
    | refine go_exit ?_ | refine next_exit ?_ | refine inb_here ?_ | refine inb_past (by decide) ?_ | refine go_ret ?_ | refine next_ret ?_ | refine inb_ret ?_))
          (apply ends_ok; (case h1 => simp; exact is_rfl); (case h2 => simp; exact is_rfl))
          simp [fin (fun h => g4 (h.2.2.1 g3))]
    · have hlt' : ¬ (i : Int) < 8 := by omega
      (repeat (first
    | (apply is_ok; (case hw => simp [hlt, hlt']); (case he => simp [hlt, hlt']; exact is_rfl))
    | (apply op_no; (case hw => simp [hlt, hlt']))
    | refine op_nil ?_ | refine next_normal ?_ | refine go_seq ?_ | refine go_region ?_ | refine go_skip ?_ | refine go_block ?_ | refine inb_normal ?_
    | (apply go_yes; (case hc => simp [hlt, hlt'])) | (apply go_no; (case hc => simp [hlt, hlt']))
    | refine go_exit ?_ | refine next_exit ?_ | refine inb_here ?_ | refine inb_past (by decide) ?_ | refine go_ret ?_ | refine next_ret ?_ | refine inb_ret ?_))
      (apply ends_ok; (case h1 => simp; exact is_rfl); (case h2 => simp; exact is_rfl))
      have : R = true := by rw [hR]; exact decide_eq_true (okI.1 fun j hj => hI j hj (by omega))
      simp [this]
  · (repeat (first
    | (apply is_ok; (case hw => simp [hL, h0, hk1, hk2, hl0, hl0', hl1, hl1', hz0, hz0', hz1, hz1', hq]); (case he => simp [hL, h0, hk1, hk2, hl0, hl0', hl1, hl1', hz0, hz0', hz1, hz1', hq]; exact is_rfl))
    | (apply op_no; (case hw => simp [hL, h0, hk1, hk2, hl0, hl0', hl1, hl1', hz0, hz0', hz1, hz1', hq]))
    | refine op_nil ?_ | refine next_normal ?_ | refine go_seq ?_ | refine go_region ?_ | refine go_skip ?_ | refine go_block ?_ | refine inb_normal ?_
    | (apply go_yes; (case hc => simp [hL, h0, hk1, hk2, hl0, hl0', hl1, hl1', hz0, hz0', hz1, hz1', hq])) | (apply go_no; (case hc => simp [hL, h0, hk1, hk2, hl0, hl0', hl1, hl1', hz0, hz0', hz1, hz1', hq]))
    | refine go_exit ?_ | refine next_exit ?_ | refine inb_here ?_ | refine inb_past (by decide) ?_ | refine go_ret ?_ | refine next_ret ?_ | refine inb_ret ?_))
    refine go_count 8 (fun i => [(1, .ptr 0 1 0 0), (3, .int .i64 n), (4, .int .i64 i)]) (fun _ => [.box (inoV k l z L)]) (fun i => ∀ j (hj : j < L.length), j < i → 0 ≤ L[j] ∧ L[j] ≤ 65535 ∧ (L[j] ≠ 0 ↔ (j : Int) < n)) (by simp [hk1, hk2]) (by simp) fun i hi hI => ?_
    by_cases hlt : i < 8
    · have hli : i < L.length := by omega
      have hw : IntKind.i64.wrap ((i : Int) + 1) = (i : Int) + 1 := wrap_id (by omega) (by omega)
      have hs := sub_ino (k := k) (l := l) (z := z) hli
      have hlt' : (i : Int) < 8 := by omega
      generalize hx : L[i] = x at hs
      have fin : ¬ (0 ≤ x ∧ x ≤ 65535 ∧ (x ≠ 0 ↔ (i : Int) < n)) → R = false := fun h => by rw [hR]; exact decide_eq_false fun hv => h (by have := okI.2 hv i hli; rwa [hx] at this)
      by_cases g1 : 0 ≤ x
      case neg =>
        have g1' : x < 0 := by omega
        (repeat (first
    | (apply is_ok; (case hw => simp [-sub, hL, hlt, hlt', hs, g1, g1']); (case he => simp [-sub, hL, hlt, hlt', hs, g1, g1']; exact is_rfl))
    | (apply op_no; (case hw => simp [-sub, hL, hlt, hlt', hs, g1, g1']))
    | refine op_nil ?_ | refine next_normal ?_ | refine go_seq ?_ | refine go_region ?_ | refine go_skip ?_ | refine go_block ?_ | refine inb_normal ?_
    | (apply go_yes; (case hc => simp [-sub, hL, hlt, hlt', hs, g1, g1'])) | (apply go_no; (case hc => simp [-sub, hL, hlt, hlt', hs, g1, g1']))
    | refine go_exit ?_ | refine next_exit ?_ | refine inb_here ?_ | refine inb_past (by decide) ?_ | refine go_ret ?_ | refine next_ret ?_ | refine inb_ret ?_))
        (apply ends_ok; (case h1 => simp; exact is_rfl); (case h2 => simp; exact is_rfl))
        simp [fin (fun h => g1 h.1)]
      have g1' : ¬ x < 0 := by omega
      by_cases g2 : x ≤ 65535
      case neg =>
        have g2' : 65535 < x := by omega
        (repeat (first
    | (apply is_ok; (case hw => simp [-sub, hL, hlt, hlt', hs, g1, g1', g2, g2']); (case he => simp [-sub, hL, hlt, hlt', hs, g1, g1', g2, g2']; exact is_rfl))
    | (apply op_no; (case hw => simp [-sub, hL, hlt, hlt', hs, g1, g1', g2, g2']))
    | refine op_nil ?_ | refine next_normal ?_ | refine go_seq ?_ | refine go_region ?_ | refine go_skip ?_ | refine go_block ?_ | refine inb_normal ?_
    | (apply go_yes; (case hc => simp [-sub, hL, hlt, hlt', hs, g1, g1', g2, g2'])) | (apply go_no; (case hc => simp [-sub, hL, hlt, hlt', hs, g1, g1', g2, g2']))
    | refine go_exit ?_ | refine next_exit ?_ | refine inb_here ?_ | refine inb_past (by decide) ?_ | refine go_ret ?_ | refine next_ret ?_ | refine inb_ret ?_))
        (apply ends_ok; (case h1 => simp; exact is_rfl); (case h2 => simp; exact is_rfl))
        simp [fin (fun h => g2 h.2.1)]
      have g2' : ¬ 65535 < x := by omega
      by_cases g3 : x = 0
      · by_cases g4 : (i : Int) < n
        · (repeat (first
    | (apply is_ok; (case hw => simp [-sub, hL, hlt, hlt', hs, g1, g1', g2, g2', g3, g4]); (case he => simp [-sub, hL, hlt, hlt', hs, g1, g1', g2, g2', g3, g4]; exact is_rfl))
    | (apply op_no; (case hw => simp [-sub, hL, hlt, hlt', hs, g1, g1', g2, g2', g3, g4]))
    | refine op_nil ?_ | refine next_normal ?_ | refine go_seq ?_ | refine go_region ?_ | refine go_skip ?_ | refine go_block ?_ | refine inb_normal ?_
    | (apply go_yes; (case hc => simp [-sub, hL, hlt, hlt', hs, g1, g1', g2, g2', g3, g4])) | (apply go_no; (case hc => simp [-sub, hL, hlt, hlt', hs, g1, g1', g2, g2', g3, g4]))
    | refine go_exit ?_ | refine next_exit ?_ | refine inb_here ?_ | refine inb_past (by decide) ?_ | refine go_ret ?_ | refine next_ret ?_ | refine inb_ret ?_))
          (apply ends_ok; (case h1 => simp; exact is_rfl); (case h2 => simp; exact is_rfl))
          simp [fin (fun h => (h.2.2.2 g4) g3)]
        · (repeat (first
    | (apply is_ok; (case hw => simp [-sub, hL, hlt, hlt', hs, g1, g1', g2, g2', g3, g4]); (case he => simp [-sub, hL, hlt, hlt', hs, g1, g1', g2, g2', g3, g4]; exact is_rfl))
    | (apply op_no; (case hw => simp [-sub, hL, hlt, hlt', hs, g1, g1', g2, g2', g3, g4]))
    | refine op_nil ?_ | refine next_normal ?_ | refine go_seq ?_ | refine go_region ?_ | refine go_skip ?_ | refine go_block ?_ | refine inb_normal ?_
    | (apply go_yes; (case hc => simp [-sub, hL, hlt, hlt', hs, g1, g1', g2, g2', g3, g4])) | (apply go_no; (case hc => simp [-sub, hL, hlt, hlt', hs, g1, g1', g2, g2', g3, g4]))
    | refine go_exit ?_ | refine next_exit ?_ | refine inb_here ?_ | refine inb_past (by decide) ?_ | refine go_ret ?_ | refine next_ret ?_ | refine inb_ret ?_))
          exact ⟨hlt, by simp [hw, hk1, hk2], fun j hj hji => by
            by_cases hje : j = i
            · subst hje; rw [hx]; exact ⟨g1, g2, fun h => absurd g3 h, fun h => absurd h g4⟩
            · exact hI j hj (by omega)⟩
      · by_cases g4 : (i : Int) < n
        · (repeat (first
    | (apply is_ok; (case hw => simp [-sub, hL, hlt, hlt', hs, g1, g1', g2, g2', g3, g4]); (case he => simp [-sub, hL, hlt, hlt', hs, g1, g1', g2, g2', g3, g4]; exact is_rfl))
    | (apply op_no; (case hw => simp [-sub, hL, hlt, hlt', hs, g1, g1', g2, g2', g3, g4]))
    | refine op_nil ?_ | refine next_normal ?_ | refine go_seq ?_ | refine go_region ?_ | refine go_skip ?_ | refine go_block ?_ | refine inb_normal ?_
    | (apply go_yes; (case hc => simp [-sub, hL, hlt, hlt', hs, g1, g1', g2, g2', g3, g4])) | (apply go_no; (case hc => simp [-sub, hL, hlt, hlt', hs, g1, g1', g2, g2', g3, g4]))
    | refine go_exit ?_ | refine next_exit ?_ | refine inb_here ?_ | refine inb_past (by decide) ?_ | refine go_ret ?_ | refine next_ret ?_ | refine inb_ret ?_))
          exact ⟨hlt, by simp [hw, hk1, hk2], fun j hj hji => by
            by_cases hje : j = i
            · subst hje; rw [hx]; exact ⟨g1, g2, fun _ => g4, fun _ => g3⟩
            · exact hI j hj (by omega)⟩
        · (repeat (first
    | (apply is_ok; (case hw => simp [-sub, hL, hlt, hlt', hs, g1, g1', g2, g2', g3, g4]); (case he => simp [-sub, hL, hlt, hlt', hs, g1, g1', g2, g2', g3, g4]; exact is_rfl))
    | (apply op_no; (case hw => simp [-sub, hL, hlt, hlt', hs, g1, g1', g2, g2', g3, g4]))
    | refine op_nil ?_ | refine next_normal ?_ | refine go_seq ?_ | refine go_region ?_ | refine go_skip ?_ | refine go_block ?_ | refine inb_normal ?_
    | (apply go_yes; (case hc => simp [-sub, hL, hlt, hlt', hs, g1, g1', g2, g2', g3, g4])) | (apply go_no; (case hc => simp [-sub, hL, hlt, hlt', hs, g1, g1', g2, g2', g3, g4]))
    | refine go_exit ?_ | refine next_exit ?_ | refine inb_here ?_ | refine inb_past (by decide) ?_ | refine go_ret ?_ | refine next_ret ?_ | refine inb_ret ?_))
          (apply ends_ok; (case h1 => simp; exact is_rfl); (case h2 => simp; exact is_rfl))
          simp [fin (fun h => g4 (h.2.2.1 g3))]
    · have hlt' : ¬ (i : Int) < 8 := by omega
      (repeat (first
    | (apply is_ok; (case hw => simp [hlt, hlt']); (case he => simp [hlt, hlt']; exact is_rfl))
    | (apply op_no; (case hw => simp [hlt, hlt']))
    | refine op_nil ?_ | refine next_normal ?_ | refine go_seq ?_ | refine go_region ?_ | refine go_skip ?_ | refine go_block ?_ | refine inb_normal ?_
    | (apply go_yes; (case hc => simp [hlt, hlt'])) | (apply go_no; (case hc => simp [hlt, hlt']))
    | refine go_exit ?_ | refine next_exit ?_ | refine inb_here ?_ | refine inb_past (by decide) ?_ | refine go_ret ?_ | refine next_ret ?_ | refine inb_ret ?_))
      (apply ends_ok; (case h1 => simp; exact is_rfl); (case h2 => simp; exact is_rfl))
      have : R = true := by rw [hR]; exact decide_eq_true (okI.1 fun j hj => hI j hj (by omega))
      simp [this]
end Go.Abs
