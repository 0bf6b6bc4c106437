/- Proved here: what functions of the program compute, over the evaluator. No condition but those that each theorem states. -/
import Derived.Test.YtefdoccoajhefaaDoorG15
namespace Go.Abs
open Go.Proofs
set_option maxRecDepth 100000
set_option linter.unusedSimpArgs false
set_option linter.unusedVariables false

theorem ParseR_eq (s : List UInt8) (hs : s.length ≤ 1200) : bodyW DC 17 [.str s] [] = some (parR s) := by
  by_cases h1 : s.length % 16 = 0
  case neg =>
    rw [parR_err (by simp [parE, h1])]
    have h1' : ¬ (s.length : Int).tmod 16 = 0 := by rw [Int.tmod_eq_emod_of_nonneg (by omega)]; omega
    (refine gives_iff ?_; refine go_func Tryd.f17 rfl rfl (by simp [Tryd.f17]) ?_; dsimp only [codeL, Tryd.f17, scL, sopsL, guardL, dstAt, loopKey])
    (repeat (first
    | (apply is_ok; (case hw => simp [h1']); (case he => simp [h1']; exact is_rfl))
    | (apply op_no; (case hw => simp [h1']))
    | refine op_nil ?_ | refine next_normal ?_ | refine go_seq ?_ | refine go_region ?_ | refine go_skip ?_ | refine go_block ?_ | refine inb_normal ?_
    | (apply go_yes; (case hc => simp [h1'])) | (apply go_no; (case hc => simp [h1']))
    | refine go_exit ?_ | refine next_exit ?_ | refine inb_here ?_ | refine inb_past (by decide) ?_ | refine go_ret ?_ | refine next_ret ?_ | refine inb_ret ?_))
    (apply ends_ok; (case h1 => simp; exact is_rfl); (case h2 => simp; exact is_rfl))
    simp
  have t0 : (s.length : Int).tmod 16 = 0 := by rw [Int.tmod_eq_emod_of_nonneg (by omega)]; omega
  by_cases h2 : (1024 : Int) < s.length
  · have hp : parE s = 9 := by
      unfold parE
      rw [if_neg (by omega), show decide (s.length / 16 ≤ 64) = false by simp; omega, Bool.and_false]
      rfl
    rw [parR_err hp]
    (refine gives_iff ?_; refine go_func Tryd.f17 rfl rfl (by simp [Tryd.f17]) ?_; dsimp only [codeL, Tryd.f17, scL, sopsL, guardL, dstAt, loopKey])
    (repeat (first
    | (apply is_ok; (case hw => simp [t0, h2]); (case he => simp [t0, h2]; exact is_rfl))
    | (apply op_no; (case hw => simp [t0, h2]))
    | refine op_nil ?_ | refine next_normal ?_ | refine go_seq ?_ | refine go_region ?_ | refine go_skip ?_ | refine go_block ?_ | refine inb_normal ?_
    | (apply go_yes; (case hc => simp [t0, h2])) | (apply go_no; (case hc => simp [t0, h2]))
    | refine go_exit ?_ | refine next_exit ?_ | refine inb_here ?_ | refine inb_past (by decide) ?_ | refine go_ret ?_ | refine next_ret ?_ | refine inb_ret ?_))
    (apply ends_ok; (case h1 => simp; exact is_rfl); (case h2 => simp; exact is_rfl))
    simp
  have hn : s.length = 16 * (s.length / 16) := by omega
  generalize hN : s.length / 16 = N at hn
  have hN64 : N ≤ 64 := by omega
  generalize hR : parR s = R
  (refine gives_iff ?_; refine go_func Tryd.f17 rfl rfl (by simp [Tryd.f17]) ?_; dsimp only [codeL, Tryd.f17, scL, sopsL, guardL, dstAt, loopKey])
  (repeat (first
    | (apply is_ok; (case hw => simp [t0, h2]); (case he => simp [t0, h2]; exact is_rfl))
    | (apply op_no; (case hw => simp [t0, h2]))
    | refine op_nil ?_ | refine next_normal ?_ | refine go_seq ?_ | refine go_region ?_ | refine go_skip ?_ | refine go_block ?_ | refine inb_normal ?_
    | (apply go_yes; (case hc => simp [t0, h2])) | (apply go_no; (case hc => simp [t0, h2]))
    | refine go_exit ?_ | refine next_exit ?_ | refine inb_here ?_ | refine inb_past (by decide) ?_ | refine go_ret ?_ | refine next_ret ?_ | refine inb_ret ?_))
  refine go_count N (fun i => [(0, .str s), (4, .own 0 i 0 i), (5, .int .i64 ((16 * i : Nat) : Int))]) (fun i => [.dat true 2 ((decL s i).map entV)]) (fun _ => True) (by simp [decL]) trivial fun i hi _ => ?_
  by_cases hlt : i < N
  · have v2 := GetR_eq s (16 * i) (by omega) (by omega)
    have q0 : s.getD (16 * i) 0 = s[16 * i]'(by omega) := by simp [show 16 * i < s.length by omega]
    have q1 : s.getD (16 * i + 1) 0 = s[16 * i + 1]'(by omega) := by simp [show 16 * i + 1 < s.length by omega]
    have hd := decL_succ s i
    have he : decE s i = (trimR ((s.take (16 * i + 16)).drop (16 * i + 2)), word s[16 * i] s[16 * i + 1]) := by unfold decE; rw [q0, q1]
    rw [hd, he]
    obtain ⟨m, hm⟩ : ∃ m, m = 16 * i := ⟨_, rfl⟩
    have hm2 : ((16 * (i + 1) : Nat) : Int) = (m : Int) + 16 := by omega
    rw [hm2]
    have hnl : ((s.take (16 * i + 16)).drop (16 * i + 2)).length = 14 := by simp; omega
    simp only [← hm] at v2 hnl ⊢
    generalize word s[m] s[m + 1] = wd at v2 ⊢
    generalize hnm : (s.take (m + 16)).drop (m + 2) = nm at hnl ⊢
    have g1 : (m : Int) < s.length := by omega
    have w1 : IntKind.i64.wrap ((m : Int) + 16) = (m : Int) + 16 := wrap_id (by omega) (by omega)
    have w2 : IntKind.i64.wrap ((m : Int) + 2) = (m : Int) + 2 := wrap_id (by omega) (by omega)
    have b1 : ((m : Int) + 2).toNat = m + 2 := by omega
    have b2 : ((m : Int) + 16).toNat = m + 16 := by omega
    have b3 : (0 : Int) ≤ (m : Int) + 2 := by omega
    have b4 : (0 : Int) ≤ (m : Int) + 16 := by omega
    have b5 : m + 2 ≤ m + 16 := by omega
    have b6 : m + 16 ≤ s.length := by omega
    have r1 : (i + 1) * 24 ≤ room := by unfold room; omega
    have r2 : i + 1 ≤ room := by unfold room; omega
    generalize hT : trimR nm = tr
    (repeat (first
    | (apply is_ok; (case hw => simp [g1, v2, w1, w2, b1, b2, b3, b4, b5, b6, hnm, hnl]); (case he => simp [g1, v2, w1, w2, b1, b2, b3, b4, b5, b6, hnm, hnl]; exact is_rfl))
    | (apply op_no; (case hw => simp [g1, v2, w1, w2, b1, b2, b3, b4, b5, b6, hnm, hnl]))
    | refine op_nil ?_ | refine next_normal ?_ | refine go_seq ?_ | refine go_region ?_ | refine go_skip ?_ | refine go_block ?_ | refine inb_normal ?_
    | (apply go_yes; (case hc => simp [g1, v2, w1, w2, b1, b2, b3, b4, b5, b6, hnm, hnl])) | (apply go_no; (case hc => simp [g1, v2, w1, w2, b1, b2, b3, b4, b5, b6, hnm, hnl]))
    | refine go_exit ?_ | refine next_exit ?_ | refine inb_here ?_ | refine inb_past (by decide) ?_ | refine go_ret ?_ | refine next_ret ?_ | refine inb_ret ?_))
    refine go_while (σ := Nat) (fun c => [(0, .str s), (4, .own 0 i 0 i), (5, .int .i64 m), (6, .ptr 1 1 0 0), (7, .str nm), (8, .int .i64 c)]) (fun c => [.dat true 2 ((decL s i).map entV), .box (.agg [.str [], .int .i64 wd])])
      (fun c => c ≤ 14 ∧ trimR (nm.take c) = tr) (fun c => c) 14 (by simp) ⟨by omega, by rw [List.take_of_length_le (by omega)]; exact hT⟩ fun c hc => ?_
    obtain ⟨hc1, hc2⟩ := hc
    cases c with
    | zero =>
      have : tr = [] := by rw [← hc2]; rfl
      subst this
      (repeat (first
    | (apply is_ok; (case hw => simp [r1, r2, w1]); (case he => simp [r1, r2, w1]; exact is_rfl))
    | (apply op_no; (case hw => simp [r1, r2, w1]))
    | refine op_nil ?_ | refine next_normal ?_ | refine go_seq ?_ | refine go_region ?_ | refine go_skip ?_ | refine go_block ?_ | refine inb_normal ?_
    | (apply go_yes; (case hc => simp [r1, r2, w1])) | (apply go_no; (case hc => simp [r1, r2, w1]))
    | refine go_exit ?_ | refine next_exit ?_ | refine inb_here ?_ | refine inb_past (by decide) ?_ | refine go_ret ?_ | refine next_ret ?_ | refine inb_ret ?_))
      exact ⟨hlt, by simp [w1, entV], trivial⟩
    | succ c =>
      have hcl : c < nm.length := by omega
      have g3 : nm[c]? = some nm[c] := List.getElem?_eq_getElem hcl
      have w3 : IntKind.i64.wrap (c : Int) = c := wrap_id (by omega) (by omega)
      have g4 : (0 : Int) < (c : Int) + 1 := by omega
      have g5 : (c : Int) < 14 := by omega
      rw [List.take_succ_eq_append_getElem hcl, trimR_snoc] at hc2
      by_cases hz : nm[c] = 0
      · rw [if_pos hz] at hc2
        (repeat (first
    | (apply is_ok; (case hw => simp [g3, g4, g5, w3, hnl, hz, hcl]); (case he => simp [g3, g4, g5, w3, hnl, hz, hcl]; exact is_rfl))
    | (apply op_no; (case hw => simp [g3, g4, g5, w3, hnl, hz, hcl]))
    | refine op_nil ?_ | refine next_normal ?_ | refine go_seq ?_ | refine go_region ?_ | refine go_skip ?_ | refine go_block ?_ | refine inb_normal ?_
    | (apply go_yes; (case hc => simp [g3, g4, g5, w3, hnl, hz, hcl])) | (apply go_no; (case hc => simp [g3, g4, g5, w3, hnl, hz, hcl]))
    | refine go_exit ?_ | refine next_exit ?_ | refine inb_here ?_ | refine inb_past (by decide) ?_ | refine go_ret ?_ | refine next_ret ?_ | refine inb_ret ?_))
        exact ⟨c, by simp, by simp, by omega, hc2⟩
      · rw [if_neg hz, ← List.take_succ_eq_append_getElem hcl] at hc2
        have hz2 : ¬ (nm[c].toNat : Int) = 0 := fun h => hz (UInt8.toNat_inj.1 (by simpa using h))
        have hz3 : ¬ nm[c].toNat = 0 := by omega
        obtain ⟨q, hq⟩ : ∃ q, q = c + 1 := ⟨_, rfl⟩
        rw [← hq] at hc2 ⊢
        have w3 : IntKind.i64.wrap ((q : Int) - 1) = c := by rw [wrap_id (by omega) (by omega)]; omega
        have g6 : 0 < q := by omega
        have g7 : q ≤ 14 := by omega
        (repeat (first
    | (apply is_ok; (case hw => simp [g3, g4, g5, g6, g7, w3, hnl, hz2, hz3, hcl, hc2, r1, r2, w1]); (case he => simp [g3, g4, g5, g6, g7, w3, hnl, hz2, hz3, hcl, hc2, r1, r2, w1]; exact is_rfl))
    | (apply op_no; (case hw => simp [g3, g4, g5, g6, g7, w3, hnl, hz2, hz3, hcl, hc2, r1, r2, w1]))
    | refine op_nil ?_ | refine next_normal ?_ | refine go_seq ?_ | refine go_region ?_ | refine go_skip ?_ | refine go_block ?_ | refine inb_normal ?_
    | (apply go_yes; (case hc => simp [g3, g4, g5, g6, g7, w3, hnl, hz2, hz3, hcl, hc2, r1, r2, w1])) | (apply go_no; (case hc => simp [g3, g4, g5, g6, g7, w3, hnl, hz2, hz3, hcl, hc2, r1, r2, w1]))
    | refine go_exit ?_ | refine next_exit ?_ | refine inb_here ?_ | refine inb_past (by decide) ?_ | refine go_ret ?_ | refine next_ret ?_ | refine inb_ret ?_))
        exact ⟨hlt, by simp [w1, entV], trivial⟩
  · have : i = N := by omega
    subst this
    have v4 := Right_eq (decL s i) (by simp; unfold maxLen; omega)
    rw [← hn]
    have g1 : ¬ (s.length : Int) < s.length := by omega
    cases hv : validB [] (decL s i) with
    | true =>
      rw [hv] at v4
      have hp : parE s = 0 := by
        unfold parE
        rw [if_neg (by omega), hN, hv, decide_eq_true hN64]
        rfl
      rw [parR_ok hp, hN] at hR
      subst hR
      (repeat (first
    | (apply is_ok; (case hw => simp [g1, v4]); (case he => simp [g1, v4]; exact is_rfl))
    | (apply op_no; (case hw => simp [g1, v4]))
    | refine op_nil ?_ | refine next_normal ?_ | refine go_seq ?_ | refine go_region ?_ | refine go_skip ?_ | refine go_block ?_ | refine inb_normal ?_
    | (apply go_yes; (case hc => simp [g1, v4])) | (apply go_no; (case hc => simp [g1, v4]))
    | refine go_exit ?_ | refine next_exit ?_ | refine inb_here ?_ | refine inb_past (by decide) ?_ | refine go_ret ?_ | refine next_ret ?_ | refine inb_ret ?_))
      (apply ends_ok; (case h1 => simp; exact is_rfl); (case h2 => simp; exact is_rfl))
      simp
    | false =>
      rw [hv] at v4
      have hp : parE s = 9 := by
        unfold parE
        rw [if_neg (by omega), hN, hv]
        rfl
      rw [parR_err hp] at hR
      subst hR
      (repeat (first
    | (apply is_ok; (case hw => simp [g1, v4]); (case he => simp [g1, v4]; exact is_rfl))
    | (apply op_no; (case hw => simp [g1, v4]))
    | refine op_nil ?_ | refine next_normal ?_ | refine go_seq ?_ | refine go_region ?_ | refine go_skip ?_ | refine go_block ?_ | refine inb_normal ?_
    | (apply go_yes; (case hc => simp [g1, v4])) | (apply go_no; (case hc => simp [g1, v4]))
    | refine go_exit ?_ | refine next_exit ?_ | refine inb_here ?_ | refine inb_past (by decide) ?_ | refine go_ret ?_ | refine next_ret ?_ | refine inb_ret ?_))
      (apply ends_ok; (case h1 => simp; exact is_rfl); (case h2 => simp; exact is_rfl))
      simp
end Go.Abs
