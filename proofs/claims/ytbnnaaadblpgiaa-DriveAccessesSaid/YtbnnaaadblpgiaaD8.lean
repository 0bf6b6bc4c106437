/- Proved here: what functions of the program compute, over the evaluator. No condition but those that each theorem states. -/
import Derived.Test.YtbnnaaadblpgiaaD7
namespace Go.Abs
open Go.Proofs
set_option maxRecDepth 100000
set_option linter.unusedSimpArgs false

def putS (S : List (List UInt8)) (w : Int × List UInt8) : List (List UInt8) := S.set w.1.toNat (w.2 ++ List.replicate (128 - w.2.length) 0)

theorem faultI_zero {n : Nat} {B : List Int} {w : Int × List UInt8} : faultI n B w = 0 ↔ (0 ≤ w.1 ∧ w.1 < n) ∧ w.2.length ≤ 128 ∧ w.1 ∉ B := by
  unfold faultI
  by_cases h : 0 ≤ w.1 ∧ w.1 < n
  · by_cases h2 : 128 < w.2.length
    · simp [h, h2]; omega
    · by_cases h3 : w.1 ∈ B
      · simp [h, h2, h3]
      · simp [h, h2, h3]; omega
  · simp [h]

theorem WriteR_ok (S : List (List UInt8)) (B : List Int) (hS : S.length ≤ 1000000) (hB : B.length ≤ maxLen) (w : Int × List UInt8) (h : faultI S.length B w = 0) :
    bodyW DC 9 [drv S B, .int .i64 w.1, .str w.2] [] = some (.tuple [.agg [.own 0 S.length 0 S.length, .sl (ints B)], .int .i64 0], [.dat true 1 (strs (putS S w))]) := by
  obtain ⟨⟨h1, h2⟩, h3, h4⟩ := faultI_zero.1 h
  have hI := Isbad_eq S B hB w.1
  have hZ := zeros_eq (128 - w.2.length) (by omega)
  have e1 : ¬ (w.1 < 0) := by omega
  have e2 : ¬ ((S.length : Int) ≤ w.1) := by omega
  have e3 : ¬ ((128 : Int) < w.2.length) := by omega
  have e4 : IntKind.i64.wrap (128 - (w.2.length : Int)) = ((128 - w.2.length : Nat) : Int) := by rw [wrap_id (by omega) (by omega)]; omega
  have r1 : S.length * 16 ≤ room := by unfold room; omega
  have r2 : S.length ≤ room := by unfold room; omega
  have r3 : w.2.length + (128 - w.2.length) ≤ room := by unfold room; omega
  have hl : w.1.toNat < S.length := by omega
  (refine gives_iff ?_; refine go_func Try.f9 rfl rfl (by simp [Try.f9]) ?_; dsimp only [codeL, Try.f9, scL, sopsL, guardL, dstAt, loopKey])
  (repeat (first
    | (apply is_ok; (case hw => simp [hI, hZ, e1, e2, e3, e4, r1, r2, r3, hl, h1, h2, h4]); (case he => simp [hI, hZ, e1, e2, e3, e4, r1, r2, r3, hl, h1, h2, h4]; exact is_rfl))
    | (apply op_no; (case hw => simp [hI, hZ, e1, e2, e3, e4, r1, r2, r3, hl, h1, h2, h4]))
    | refine op_nil ?_ | refine next_normal ?_ | refine go_seq ?_ | refine go_region ?_ | refine go_skip ?_ | refine go_block ?_ | refine inb_normal ?_
    | (apply go_yes; (case hc => simp [hI, hZ, e1, e2, e3, e4, r1, r2, r3, hl, h1, h2, h4])) | (apply go_no; (case hc => simp [hI, hZ, e1, e2, e3, e4, r1, r2, r3, hl, h1, h2, h4]))
    | refine go_exit ?_ | refine next_exit ?_ | refine inb_here ?_ | refine inb_past (by decide) ?_ | refine go_ret ?_ | refine next_ret ?_ | refine inb_ret ?_))
  (apply ends_ok; (case h1 => simp; exact is_rfl); (case h2 => simp; exact is_rfl))
  simp [putS, List.map_set]

theorem WriteR_no (S : List (List UInt8)) (B : List Int) (hB : B.length ≤ maxLen) (w : Int × List UInt8) (h : faultI S.length B w ≠ 0) :
    bodyW DC 9 [drv S B, .int .i64 w.1, .str w.2] [] = some (.tuple [.agg [.nils, .nils], .int .i64 (faultI S.length B w)], []) := by
  have hI := Isbad_eq S B hB w.1
  unfold faultI at h ⊢
  (refine gives_iff ?_; refine go_func Try.f9 rfl rfl (by simp [Try.f9]) ?_; dsimp only [codeL, Try.f9, scL, sopsL, guardL, dstAt, loopKey])
  by_cases h1 : w.1 < 0
  · (repeat (first
    | (apply is_ok; (case hw => simp [h1]); (case he => simp [h1]; exact is_rfl))
    | (apply op_no; (case hw => simp [h1]))
    | refine op_nil ?_ | refine next_normal ?_ | refine go_seq ?_ | refine go_region ?_ | refine go_skip ?_ | refine go_block ?_ | refine inb_normal ?_
    | (apply go_yes; (case hc => simp [h1])) | (apply go_no; (case hc => simp [h1]))
    | refine go_exit ?_ | refine next_exit ?_ | refine inb_here ?_ | refine inb_past (by decide) ?_ | refine go_ret ?_ | refine next_ret ?_ | refine inb_ret ?_))
    (apply ends_ok; (case h1 => simp; exact is_rfl); (case h2 => simp; exact is_rfl))
    have : ¬ (0 ≤ w.1) := by omega
    simp [this]
  by_cases h2 : (S.length : Int) ≤ w.1
  · (repeat (first
    | (apply is_ok; (case hw => simp [h1, h2]); (case he => simp [h1, h2]; exact is_rfl))
    | (apply op_no; (case hw => simp [h1, h2]))
    | refine op_nil ?_ | refine next_normal ?_ | refine go_seq ?_ | refine go_region ?_ | refine go_skip ?_ | refine go_block ?_ | refine inb_normal ?_
    | (apply go_yes; (case hc => simp [h1, h2])) | (apply go_no; (case hc => simp [h1, h2]))
    | refine go_exit ?_ | refine next_exit ?_ | refine inb_here ?_ | refine inb_past (by decide) ?_ | refine go_ret ?_ | refine next_ret ?_ | refine inb_ret ?_))
    (apply ends_ok; (case h1 => simp; exact is_rfl); (case h2 => simp; exact is_rfl))
    have : ¬ (w.1 < S.length) := by omega
    simp [this]
  have h0 : 0 ≤ w.1 := by omega
  have h0' : w.1 < S.length := by omega
  by_cases h3 : 128 < w.2.length
  · have e3 : ((128 : Int) < w.2.length) := by omega
    (repeat (first
    | (apply is_ok; (case hw => simp [h1, h2, h3, e3]); (case he => simp [h1, h2, h3, e3]; exact is_rfl))
    | (apply op_no; (case hw => simp [h1, h2, h3, e3]))
    | refine op_nil ?_ | refine next_normal ?_ | refine go_seq ?_ | refine go_region ?_ | refine go_skip ?_ | refine go_block ?_ | refine inb_normal ?_
    | (apply go_yes; (case hc => simp [h1, h2, h3, e3])) | (apply go_no; (case hc => simp [h1, h2, h3, e3]))
    | refine go_exit ?_ | refine next_exit ?_ | refine inb_here ?_ | refine inb_past (by decide) ?_ | refine go_ret ?_ | refine next_ret ?_ | refine inb_ret ?_))
    (apply ends_ok; (case h1 => simp; exact is_rfl); (case h2 => simp; exact is_rfl))
    simp [h0, h0', h3]
  have e3 : ¬ ((128 : Int) < w.2.length) := by omega
  by_cases h4 : w.1 ∈ B
  · (repeat (first
    | (apply is_ok; (case hw => simp [h1, h2, h3, e3, h4, hI]); (case he => simp [h1, h2, h3, e3, h4, hI]; exact is_rfl))
    | (apply op_no; (case hw => simp [h1, h2, h3, e3, h4, hI]))
    | refine op_nil ?_ | refine next_normal ?_ | refine go_seq ?_ | refine go_region ?_ | refine go_skip ?_ | refine go_block ?_ | refine inb_normal ?_
    | (apply go_yes; (case hc => simp [h1, h2, h3, e3, h4, hI])) | (apply go_no; (case hc => simp [h1, h2, h3, e3, h4, hI]))
    | refine go_exit ?_ | refine next_exit ?_ | refine inb_here ?_ | refine inb_past (by decide) ?_ | refine go_ret ?_ | refine next_ret ?_ | refine inb_ret ?_))
    (apply ends_ok; (case h1 => simp; exact is_rfl); (case h2 => simp; exact is_rfl))
    simp [h0, h0', h3, h4]
  · simp [h0, h0', h3, h4] at h

def applyS (B : List Int) (fuse : Int) : List (List UInt8) → Nat → List (Int × List UInt8) → List (List UInt8) × Nat × Int
  | S, i, [] => (S, i, 0)
  | S, i, w :: r => if (i : Int) = fuse then (S, i, 0) else if faultI S.length B w = 0 then applyS B fuse (putS S w) (i + 1) r else (S, i, faultI S.length B w)

theorem repeatL_zero (n : Nat) : Lib.repeatL [0] n = List.replicate n (0 : UInt8) := by
  induction n with
  | zero => rfl
  | succ n ih => show [0] ++ Lib.repeatL [0] n = _; rw [ih]; rfl

theorem Apply_eq (S : List (List UInt8)) (B : List Int) (hS : S.length ≤ 1000000) (hB : B.length ≤ 1000000) (l : List (Int × List UInt8)) (hl : l.length ≤ 1000000) (fuse : Int) :
    bodyW DC 17 [drv S B, .sl (l.map wrV), .int .i64 fuse] [] =
      some (.tuple [.agg [.own 0 S.length 0 S.length, .own 1 B.length 0 B.length], .int .i64 (applyS B fuse S 0 l).2.1, .int .i64 (applyS B fuse S 0 l).2.2], [.dat true 1 (strs (applyS B fuse S 0 l).1), .dat true 1 (ints B)]) := by
  have hC := copied_eq S B hS hB
  have hW := worn_eq S B (by unfold maxLen; omega)
  generalize hR : applyS B fuse S 0 l = R
  (refine gives_iff ?_; refine go_func Try.f17 rfl rfl (by simp [Try.f17]) ?_; dsimp only [codeL, Try.f17, scL, sopsL, guardL, dstAt, loopKey])
  (repeat (first
    | (apply is_ok; (case hw => simp [hC, hW]); (case he => simp [hC, hW]; exact is_rfl))
    | (apply op_no; (case hw => simp [hC, hW]))
    | refine op_nil ?_ | refine next_normal ?_ | refine go_seq ?_ | refine go_region ?_ | refine go_skip ?_ | refine go_block ?_ | refine inb_normal ?_
    | (apply go_yes; (case hc => simp [hC, hW])) | (apply go_no; (case hc => simp [hC, hW]))
    | refine go_exit ?_ | refine next_exit ?_ | refine inb_here ?_ | refine inb_past (by decide) ?_ | refine go_ret ?_ | refine next_ret ?_ | refine inb_ret ?_))
  refine go_while (σ := Nat × List (List UInt8)) (fun s => [(1, .sl (l.map wrV)), (2, .int .i64 fuse), (3, .ptr 0 1 0 0), (6, .ptr 3 1 0 0), (9, .map 6), (17, .sl (l.map wrV)), (18, .int .i64 l.length), (19, .int .i64 s.1)])
    (fun s => [.box (.agg [.own 1 S.length 0 S.length, .own 2 B.length 0 B.length]), .dat true 1 (strs s.2), .dat true 1 (ints B), .box (.agg [.own 4 0 0 0, .own 5 0 0 0]), .dat true 1 [], .dat true 1 [], .map true (ints (wornK B)) (List.replicate (wornK B).length (.bool true))])
    (fun s => s.1 ≤ l.length ∧ s.2.length = S.length ∧ applyS B fuse s.2 s.1 (l.drop s.1) = R) (fun s => l.length - s.1) (0, S) (by simp) (by simpa using hR) fun ⟨i, T⟩ ⟨hi, hT, hA⟩ => ?_
  simp only at hi hT hA ⊢
  by_cases hlt : i < l.length
  · have hw : IntKind.i64.wrap ((i : Int) + 1) = (i : Int) + 1 := wrap_id (by omega) (by omega)
    have hF := fault_eq T B l[i]
    rw [List.drop_eq_getElem_cons hlt, applyS] at hA
    by_cases hf : (i : Int) = fuse
    · subst hf
      rw [if_pos rfl] at hA
      (repeat (first
    | (apply is_ok; (case hw => simp [hlt]); (case he => simp [hlt]; exact is_rfl))
    | (apply op_no; (case hw => simp [hlt]))
    | refine op_nil ?_ | refine next_normal ?_ | refine go_seq ?_ | refine go_region ?_ | refine go_skip ?_ | refine go_block ?_ | refine inb_normal ?_
    | (apply go_yes; (case hc => simp [hlt])) | (apply go_no; (case hc => simp [hlt]))
    | refine go_exit ?_ | refine next_exit ?_ | refine inb_here ?_ | refine inb_past (by decide) ?_ | refine go_ret ?_ | refine next_ret ?_ | refine inb_ret ?_))
      (apply ends_ok; (case h1 => simp; exact is_rfl); (case h2 => simp; exact is_rfl))
      simp [← hA, hT]
    · rw [if_neg hf] at hA
      by_cases hz : faultI T.length B l[i] = 0
      · rw [if_pos hz] at hA
        obtain ⟨⟨h1, h2⟩, h3, h4⟩ := faultI_zero.1 hz
        have e4 : IntKind.i64.wrap (128 - (l[i].2.length : Int)) = ((128 - l[i].2.length : Nat) : Int) := by rw [wrap_id (by omega) (by omega)]; omega
        have e5 : 128 - l[i].2.length ≤ 140737488355328 := by omega
        have e6 : ((128 - l[i].2.length : Nat) : Int) ≤ 9223372036854775807 := by omega
        have r3 : l[i].2.length + (128 - l[i].2.length) ≤ room := by unfold room; omega
        have hl' : l[i].1.toNat < T.length := by omega
        have hl'' : l[i].1.toNat < S.length := by omega
        have hl3 : l[i].1 < S.length := by omega
        rw [hT] at hz
        rw [hT] at hF
        (repeat (first
    | (apply is_ok; (case hw => simp [hlt, hf, hF, hz, e4, e5, e6, r3, hl', hl'', hl3, hT, h1, repeatX, repeatL_zero]); (case he => simp [hlt, hf, hF, hz, e4, e5, e6, r3, hl', hl'', hl3, hT, h1, repeatX, repeatL_zero]; exact is_rfl))
    | (apply op_no; (case hw => simp [hlt, hf, hF, hz, e4, e5, e6, r3, hl', hl'', hl3, hT, h1, repeatX, repeatL_zero]))
    | refine op_nil ?_ | refine next_normal ?_ | refine go_seq ?_ | refine go_region ?_ | refine go_skip ?_ | refine go_block ?_ | refine inb_normal ?_
    | (apply go_yes; (case hc => simp [hlt, hf, hF, hz, e4, e5, e6, r3, hl', hl'', hl3, hT, h1, repeatX, repeatL_zero])) | (apply go_no; (case hc => simp [hlt, hf, hF, hz, e4, e5, e6, r3, hl', hl'', hl3, hT, h1, repeatX, repeatL_zero]))
    | refine go_exit ?_ | refine next_exit ?_ | refine inb_here ?_ | refine inb_past (by decide) ?_ | refine go_ret ?_ | refine next_ret ?_ | refine inb_ret ?_))
        refine ⟨(i + 1, putS T l[i]), by simp [hw, putS, List.map_set], by show l.length - (i + 1) < l.length - i; omega, by show i + 1 ≤ l.length; omega, by simpa [putS] using hT, hA⟩
      · rw [if_neg hz] at hA
        rw [hT] at hz hF hA
        (repeat (first
    | (apply is_ok; (case hw => simp [hlt, hf, hF, hz, hT]); (case he => simp [hlt, hf, hF, hz, hT]; exact is_rfl))
    | (apply op_no; (case hw => simp [hlt, hf, hF, hz, hT]))
    | refine op_nil ?_ | refine next_normal ?_ | refine go_seq ?_ | refine go_region ?_ | refine go_skip ?_ | refine go_block ?_ | refine inb_normal ?_
    | (apply go_yes; (case hc => simp [hlt, hf, hF, hz, hT])) | (apply go_no; (case hc => simp [hlt, hf, hF, hz, hT]))
    | refine go_exit ?_ | refine next_exit ?_ | refine inb_here ?_ | refine inb_past (by decide) ?_ | refine go_ret ?_ | refine next_ret ?_ | refine inb_ret ?_))
        (apply ends_ok; (case h1 => simp; exact is_rfl); (case h2 => simp; exact is_rfl))
        simp [← hA, hT]
  · (repeat (first
    | (apply is_ok; (case hw => simp [hlt]); (case he => simp [hlt]; exact is_rfl))
    | (apply op_no; (case hw => simp [hlt]))
    | refine op_nil ?_ | refine next_normal ?_ | refine go_seq ?_ | refine go_region ?_ | refine go_skip ?_ | refine go_block ?_ | refine inb_normal ?_
    | (apply go_yes; (case hc => simp [hlt])) | (apply go_no; (case hc => simp [hlt]))
    | refine go_exit ?_ | refine next_exit ?_ | refine inb_here ?_ | refine inb_past (by decide) ?_ | refine go_ret ?_ | refine next_ret ?_ | refine inb_ret ?_))
    (apply ends_ok; (case h1 => simp; exact is_rfl); (case h2 => simp; exact is_rfl))
    have : i = l.length := by omega
    rw [this, List.drop_length, applyS] at hA
    simp [← hA, hT, this]

end Go.Abs
