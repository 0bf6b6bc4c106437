/- Proved here: what functions of the program compute, over the evaluator. No condition but those that each theorem states. -/
import Derived.Test.YtoeakhllpijkiaaD12
namespace Go.Abs
open Go.Proofs
set_option maxRecDepth 100000
set_option linter.unusedSimpArgs false

theorem diffL_one {S T : List (List UInt8)} {i : Nat} (h : ∀ j, j ≠ i → S[j]? = T[j]?) : ∀ n, diffL S T n = if i < n ∧ S[i]? ≠ T[i]? then [(i : Int)] else []
  | 0 => by simp [diffL]
  | n + 1 => by
    rw [diffL_succ, diffL_one h n]
    by_cases hn : n = i
    · subst hn
      by_cases h2 : S[n]? = T[n]?
      · simp [h2]
      · simp [h2]
    · rw [if_pos (h n hn)]
      have : i < n + 1 ↔ i < n := by omega
      simp only [this]
theorem diffA_put (S : List (List UInt8)) (w : Int × List UInt8) (h0 : 0 ≤ w.1) : diffA S (putS S w) = [] ∨ diffA S (putS S w) = [w.1] := by
  have h : ∀ j, j ≠ w.1.toNat → S[j]? = (putS S w)[j]? := fun j hj => by unfold putS; rw [List.getElem?_set_ne (Ne.symm hj)]
  rw [diffA, diffL_one h]
  split
  · exact .inr (by rw [Int.toNat_of_nonneg h0])
  · exact .inl rfl
theorem RightP_put {S : List (List UInt8)} {B : List Int} {w : Int × List UInt8} (h : RightP S B) (hw : w.2.length ≤ 128) : RightP (putS S w) B := by
  obtain ⟨h1, h2, h3, h4, h5⟩ := h
  refine ⟨by rw [putS_length]; exact h1, by rw [putS_length]; exact h2, fun s hs => ?_, by rw [putS_length]; exact h4, h5⟩
  unfold putS at hs
  rcases List.mem_or_eq_of_mem_set hs with hs | rfl
  · exact h3 s hs
  · simp; omega
theorem readS_put {S : List (List UInt8)} {B : List Int} {w : Int × List UInt8} (h : faultI S.length B w = 0) : readS (putS S w) B w.1 = (w.2 ++ List.replicate (128 - w.2.length) 0, 0) := by
  obtain ⟨h1, h2, h3⟩ := faultI_zero.1 h
  have hl : w.1.toNat < S.length := by omega
  unfold readS
  rw [putS_length, if_pos h1, if_neg h3]
  simp [putS, hl]

theorem DriveBack_eq (S : List (List UInt8)) (B : List Int) (hB : B.length ≤ maxLen) (k : Int) (s : List UInt8) : bodyW DC 8 [drv S B, .int .i64 k, .str s] [] = some (.bool true, []) := by
  have hG := good_eq S B hB
  have hA := alive_eq
  by_cases h : FairP S B ∧ RightP S B
  case neg =>
    (refine gives_iff ?_; refine go_func Try.f8 rfl rfl (by simp [Try.f8]) ?_; dsimp only [codeL, Try.f8, scL, sopsL, guardL, dstAt, loopKey])
    (repeat (first
    | (apply is_ok; (case hw => simp [hG, h, hA]); (case he => simp [hG, h, hA]; exact is_rfl))
    | (apply op_no; (case hw => simp [hG, h, hA]))
    | refine op_nil ?_ | refine next_normal ?_ | refine go_seq ?_ | refine go_region ?_ | refine go_skip ?_ | refine go_block ?_ | refine inb_normal ?_
    | (apply go_yes; (case hc => simp [hG, h, hA])) | (apply go_no; (case hc => simp [hG, h, hA]))
    | refine go_exit ?_ | refine next_exit ?_ | refine inb_here ?_ | refine inb_past (by decide) ?_ | refine go_ret ?_ | refine next_ret ?_ | refine inb_ret ?_))
    (apply ends_ok; (case h1 => simp; exact is_rfl); (case h2 => simp; exact is_rfl))
    simp
  by_cases h2 : s.length ≤ 200
  case neg =>
    have e2 : (200 : Int) < s.length := by omega
    (refine gives_iff ?_; refine go_func Try.f8 rfl rfl (by simp [Try.f8]) ?_; dsimp only [codeL, Try.f8, scL, sopsL, guardL, dstAt, loopKey])
    (repeat (first
    | (apply is_ok; (case hw => simp [hG, h, e2, hA]); (case he => simp [hG, h, e2, hA]; exact is_rfl))
    | (apply op_no; (case hw => simp [hG, h, e2, hA]))
    | refine op_nil ?_ | refine next_normal ?_ | refine go_seq ?_ | refine go_region ?_ | refine go_skip ?_ | refine go_block ?_ | refine inb_normal ?_
    | (apply go_yes; (case hc => simp [hG, h, e2, hA])) | (apply go_no; (case hc => simp [hG, h, e2, hA]))
    | refine go_exit ?_ | refine next_exit ?_ | refine inb_here ?_ | refine inb_past (by decide) ?_ | refine go_ret ?_ | refine next_ret ?_ | refine inb_ret ?_))
    (apply ends_ok; (case h1 => simp; exact is_rfl); (case h2 => simp; exact is_rfl))
    simp
  have e2 : ¬ ((200 : Int) < s.length) := by omega
  have b1 : S.length ≤ 1000000 := by have := h.1.1; omega
  have b2 : B.length ≤ 1000000 := by have := h.1.2.1; omega
  by_cases hf : faultI S.length B (k, s) = 0
  case neg =>
    have hW := Write_no S B b1 b2 (k, s) hf
    simp only at hW
    (refine gives_iff ?_; refine go_func Try.f8 rfl rfl (by simp [Try.f8]) ?_; dsimp only [codeL, Try.f8, scL, sopsL, guardL, dstAt, loopKey])
    (repeat (first
    | (apply is_ok; (case hw => simp [hG, h, e2, hA, hW, hf]); (case he => simp [hG, h, e2, hA, hW, hf]; exact is_rfl))
    | (apply op_no; (case hw => simp [hG, h, e2, hA, hW, hf]))
    | refine op_nil ?_ | refine next_normal ?_ | refine go_seq ?_ | refine go_region ?_ | refine go_skip ?_ | refine go_block ?_ | refine inb_normal ?_
    | (apply go_yes; (case hc => simp [hG, h, e2, hA, hW, hf])) | (apply go_no; (case hc => simp [hG, h, e2, hA, hW, hf]))
    | refine go_exit ?_ | refine next_exit ?_ | refine inb_here ?_ | refine inb_past (by decide) ?_ | refine go_ret ?_ | refine next_ret ?_ | refine inb_ret ?_))
    (apply ends_ok; (case h1 => simp; exact is_rfl); (case h2 => simp; exact is_rfl))
    simp
  have hW := Write_ok S B b1 b2 (k, s) hf
  have hR := Read_eq (putS S (k, s)) B hB k
  rw [readS_put hf] at hR
  have hV := Right_eq (putS S (k, s)) B hB
  obtain ⟨hk, hs, _⟩ := faultI_zero.1 hf
  have hRP : RightP (putS S (k, s)) B := RightP_put h.2 hs
  have hD := Diff_eq S (putS S (k, s)) B B b1 (by rw [putS_length]; exact b1)
  have hd := diffA_put S (k, s) hk.1
  have hT : (putS S (k, s)).length = S.length := putS_length
  simp only at hW hR hs hd
  generalize putS S (k, s) = T at hW hR hV hRP hD hd hT
  generalize diffA S T = D at hD hd
  have g1 : (s ++ List.replicate (128 - s.length) (0 : UInt8)).length = 128 := by simp; omega
  have g2 : (s ++ List.replicate (128 - s.length) (0 : UInt8)).take s.length = s := by simp
  have g3 : ∀ i, s.length ≤ i → i < 128 → (s ++ List.replicate (128 - s.length) (0 : UInt8))[i]? = some 0 := fun i h1 h2 => by
    rw [List.getElem?_append_right h1, List.getElem?_replicate, if_pos (by omega)]
  generalize s ++ List.replicate (128 - s.length) (0 : UInt8) = got at hR g1 g2 g3
  (refine gives_iff ?_; refine go_func Try.f8 rfl rfl (by simp [Try.f8]) ?_; dsimp only [codeL, Try.f8, scL, sopsL, guardL, dstAt, loopKey])
  (repeat (first
    | (apply is_ok; (case hw => simp [hG, h, e2, hA, hW, hR, hV, hRP, hT, g1, g2, hs]); (case he => simp [hG, h, e2, hA, hW, hR, hV, hRP, hT, g1, g2, hs]; exact is_rfl))
    | (apply op_no; (case hw => simp [hG, h, e2, hA, hW, hR, hV, hRP, hT, g1, g2, hs]))
    | refine op_nil ?_ | refine next_normal ?_ | refine go_seq ?_ | refine go_region ?_ | refine go_skip ?_ | refine go_block ?_ | refine inb_normal ?_
    | (apply go_yes; (case hc => simp [hG, h, e2, hA, hW, hR, hV, hRP, hT, g1, g2, hs])) | (apply go_no; (case hc => simp [hG, h, e2, hA, hW, hR, hV, hRP, hT, g1, g2, hs]))
    | refine go_exit ?_ | refine next_exit ?_ | refine inb_here ?_ | refine inb_past (by decide) ?_ | refine go_ret ?_ | refine next_ret ?_ | refine inb_ret ?_))
  refine go_count (128 - s.length) (fun i => [(1, .int .i64 k), (3, .ptr 0 1 0 0), (7, .ptr 1 1 0 0), (9, .str got), (11, .int .i64 ((s.length + i : Nat) : Int))]) (fun i => [.box (drv S B), .box (.agg [.own 2 S.length 0 S.length, .own 3 B.length 0 B.length]), .dat true 1 (strs T), .dat true 1 (ints B)]) (fun _ => True) (by simp) trivial fun i hi _ => ?_
  generalize hj : s.length + i = j
  by_cases hlt : j < 128
  · have hw : IntKind.i64.wrap ((j : Int) + 1) = (j : Int) + 1 := wrap_id (by omega) (by omega)
    have g4 := g3 j (by omega) hlt
    have hlt' : (j : Int) < 128 := by omega
    have hlg : j < got.length := by omega
    have g5 : got[j]'hlg = 0 := by rw [List.getElem?_eq_getElem hlg] at g4; exact Option.some.inj g4
    have hj' : s.length + (i + 1) = j + 1 := by omega
    (repeat (first
    | (apply is_ok; (case hw => simp [hlt, hlt', g1, g4, g5, hlg]); (case he => simp [hlt, hlt', g1, g4, g5, hlg]; exact is_rfl))
    | (apply op_no; (case hw => simp [hlt, hlt', g1, g4, g5, hlg]))
    | refine op_nil ?_ | refine next_normal ?_ | refine go_seq ?_ | refine go_region ?_ | refine go_skip ?_ | refine go_block ?_ | refine inb_normal ?_
    | (apply go_yes; (case hc => simp [hlt, hlt', g1, g4, g5, hlg])) | (apply go_no; (case hc => simp [hlt, hlt', g1, g4, g5, hlg]))
    | refine go_exit ?_ | refine next_exit ?_ | refine inb_here ?_ | refine inb_past (by decide) ?_ | refine go_ret ?_ | refine next_ret ?_ | refine inb_ret ?_))
    exact ⟨by omega, by simp [hw, hj'], trivial⟩
  · have hlt' : ¬ ((j : Int) < 128) := by omega
    rcases hd with rfl | rfl
    · (repeat (first
    | (apply is_ok; (case hw => simp [hlt, hlt', g1, hD, hT, hA]); (case he => simp [hlt, hlt', g1, hD, hT, hA]; exact is_rfl))
    | (apply op_no; (case hw => simp [hlt, hlt', g1, hD, hT, hA]))
    | refine op_nil ?_ | refine next_normal ?_ | refine go_seq ?_ | refine go_region ?_ | refine go_skip ?_ | refine go_block ?_ | refine inb_normal ?_
    | (apply go_yes; (case hc => simp [hlt, hlt', g1, hD, hT, hA])) | (apply go_no; (case hc => simp [hlt, hlt', g1, hD, hT, hA]))
    | refine go_exit ?_ | refine next_exit ?_ | refine inb_here ?_ | refine inb_past (by decide) ?_ | refine go_ret ?_ | refine next_ret ?_ | refine inb_ret ?_))
      (apply ends_ok; (case h1 => simp; exact is_rfl); (case h2 => simp; exact is_rfl))
      simp
    · (repeat (first
    | (apply is_ok; (case hw => simp [hlt, hlt', g1, hD, hT, hA]); (case he => simp [hlt, hlt', g1, hD, hT, hA]; exact is_rfl))
    | (apply op_no; (case hw => simp [hlt, hlt', g1, hD, hT, hA]))
    | refine op_nil ?_ | refine next_normal ?_ | refine go_seq ?_ | refine go_region ?_ | refine go_skip ?_ | refine go_block ?_ | refine inb_normal ?_
    | (apply go_yes; (case hc => simp [hlt, hlt', g1, hD, hT, hA])) | (apply go_no; (case hc => simp [hlt, hlt', g1, hD, hT, hA]))
    | refine go_exit ?_ | refine next_exit ?_ | refine inb_here ?_ | refine inb_past (by decide) ?_ | refine go_ret ?_ | refine next_ret ?_ | refine inb_ret ?_))
      (apply ends_ok; (case h1 => simp; exact is_rfl); (case h2 => simp; exact is_rfl))
      simp
end Go.Abs
