/- Proved here: what functions of the program compute, over the evaluator. No condition but those that each theorem states. -/
import Derived.Test.YtefdoccoajhefaaDoorG13
namespace Go.Abs
open Go.Proofs
set_option maxRecDepth 100000
set_option linter.unusedSimpArgs false
set_option linter.unusedVariables false

theorem TrimRight_eq (s : List UInt8) (hs : s.length ≤ 1000000) (h0 : ¬ s = []) : bodyW DC 35 [.str s, .str [0]] [] = some (.str (trimR s), []) := by
  have h1 := trimRight_eq s hs
  (refine gives_iff ?_; refine go_func Tryd.f35 rfl rfl (by simp [Tryd.f35]) ?_; dsimp only [codeL, Tryd.f35, scL, sopsL, guardL, dstAt, loopKey])
  (repeat (first
    | (apply is_ok; (case hw => simp [h0, h1]); (case he => simp [h0, h1]; exact is_rfl))
    | (apply op_no; (case hw => simp [h0, h1]))
    | refine op_nil ?_ | refine next_normal ?_ | refine go_seq ?_ | refine go_region ?_ | refine go_skip ?_ | refine go_block ?_ | refine inb_normal ?_
    | (apply go_yes; (case hc => simp [h0, h1])) | (apply go_no; (case hc => simp [h0, h1]))
    | refine go_exit ?_ | refine next_exit ?_ | refine inb_here ?_ | refine inb_past (by decide) ?_ | refine go_ret ?_ | refine next_ret ?_ | refine inb_ret ?_))
  (apply ends_ok; (case h1 => simp; exact is_rfl); (case h2 => simp; exact is_rfl))
  simp

/-- The entry at 16 bytes. -/
def decE (s : List UInt8) (j : Nat) : List UInt8 × Int := (trimR ((s.take (16 * j + 16)).drop (16 * j + 2)), word (s.getD (16 * j) 0) (s.getD (16 * j + 1) 0))
def decL (s : List UInt8) (n : Nat) : List (List UInt8 × Int) := (List.range n).map (decE s)
theorem decL_succ (s : List UInt8) (n : Nat) : decL s (n + 1) = decL s n ++ [decE s n] := by simp [decL, List.range_succ]
@[simp] theorem decL_length (s : List UInt8) (n : Nat) : (decL s n).length = n := by simp [decL]

def parE (s : List UInt8) : Int := if s.length % 16 ≠ 0 then 9 else if validB [] (decL s (s.length / 16)) && decide (s.length / 16 ≤ 64) then 0 else 9
def parR (s : List UInt8) : V × Heap := if parE s = 0 then (.tuple [.own 0 (s.length / 16) 0 (s.length / 16), .int .i64 0], [.dat true 2 ((decL s (s.length / 16)).map entV)])
  else (.tuple [.own 0 0 0 0, .int .i64 9], [.dat true 2 []])
theorem parR_err {s : List UInt8} (h : parE s = 9) : parR s = (.tuple [.own 0 0 0 0, .int .i64 9], [.dat true 2 []]) := by
  unfold parR
  rw [h, if_neg (by decide)]
theorem parR_ok {s : List UInt8} (h : parE s = 0) : parR s = (.tuple [.own 0 (s.length / 16) 0 (s.length / 16), .int .i64 0], [.dat true 2 ((decL s (s.length / 16)).map entV)]) := by
  unfold parR
  rw [h, if_pos rfl]

theorem Parse_eq (s : List UInt8) (hs : s.length ≤ 1200) : bodyW DC 16 [.str s] [] = some (parR s) := by
  by_cases h1 : s.length % 16 = 0
  case neg =>
    rw [parR_err (by simp [parE, h1])]
    have h1' : ¬ (s.length : Int).tmod 16 = 0 := by rw [Int.tmod_eq_emod_of_nonneg (by omega)]; omega
    (refine gives_iff ?_; refine go_func Tryd.f16 rfl rfl (by simp [Tryd.f16]) ?_; dsimp only [codeL, Tryd.f16, scL, sopsL, guardL, dstAt, loopKey])
    (repeat (first
    | (apply is_ok; (case hw => simp [h1']); (case he => simp [h1']; exact is_rfl))
    | (apply op_no; (case hw => simp [h1']))
    | refine op_nil ?_ | refine next_normal ?_ | refine go_seq ?_ | refine go_region ?_ | refine go_skip ?_ | refine go_block ?_ | refine inb_normal ?_
    | (apply go_yes; (case hc => simp [h1'])) | (apply go_no; (case hc => simp [h1']))
    | refine go_exit ?_ | refine next_exit ?_ | refine inb_here ?_ | refine inb_past (by decide) ?_ | refine go_ret ?_ | refine next_ret ?_ | refine inb_ret ?_))
    (apply ends_ok; (case h1 => simp; exact is_rfl); (case h2 => simp; exact is_rfl))
    simp
  have hn : s.length = 16 * (s.length / 16) := by omega
  generalize hN : s.length / 16 = N at hn
  have t0 : (s.length : Int).tmod 16 = 0 := by rw [Int.tmod_eq_emod_of_nonneg (by omega)]; omega
  generalize hR : parR s = R
  (refine gives_iff ?_; refine go_func Tryd.f16 rfl rfl (by simp [Tryd.f16]) ?_; dsimp only [codeL, Tryd.f16, scL, sopsL, guardL, dstAt, loopKey])
  (repeat (first
    | (apply is_ok; (case hw => simp [t0]); (case he => simp [t0]; exact is_rfl))
    | (apply op_no; (case hw => simp [t0]))
    | refine op_nil ?_ | refine next_normal ?_ | refine go_seq ?_ | refine go_region ?_ | refine go_skip ?_ | refine go_block ?_ | refine inb_normal ?_
    | (apply go_yes; (case hc => simp [t0])) | (apply go_no; (case hc => simp [t0]))
    | refine go_exit ?_ | refine next_exit ?_ | refine inb_here ?_ | refine inb_past (by decide) ?_ | refine go_ret ?_ | refine next_ret ?_ | refine inb_ret ?_))
  refine go_count N (fun i => [(0, .str s), (4, .own 0 i 0 i), (5, .int .i64 ((16 * i : Nat) : Int))]) (fun i => [.dat true 2 ((decL s i).map entV)]) (fun _ => True) (by simp [decL]) trivial fun i hi _ => ?_
  by_cases hlt : i < N
  · have v2 := Get_eq s (16 * i) (by omega) (by omega)
    have q0 : s.getD (16 * i) 0 = s[16 * i]'(by omega) := by simp [show 16 * i < s.length by omega]
    have q1 : s.getD (16 * i + 1) 0 = s[16 * i + 1]'(by omega) := by simp [show 16 * i + 1 < s.length by omega]
    have v3 := TrimRight_eq ((s.take (16 * i + 16)).drop (16 * i + 2)) (by simp; omega) (by intro h; have := congrArg List.length h; simp at this; omega)
    have hd := decL_succ s i
    have he : decE s i = (trimR ((s.take (16 * i + 16)).drop (16 * i + 2)), word s[16 * i] s[16 * i + 1]) := by unfold decE; rw [q0, q1]
    rw [hd, he]
    obtain ⟨m, hm⟩ : ∃ m, m = 16 * i := ⟨_, rfl⟩
    have hm2 : ((16 * (i + 1) : Nat) : Int) = (m : Int) + 16 := by omega
    rw [hm2]
    simp only [← hm] at v2 v3 ⊢
    generalize word s[m] s[m + 1] = wd at v2 ⊢
    generalize trimR ((s.take (m + 16)).drop (m + 2)) = tr at v3 ⊢
    have g1 : (m : Int) < s.length := by omega
    have w1 : IntKind.i64.wrap ((m : Int) + 16) = (m : Int) + 16 := wrap_id (by omega) (by omega)
    have b1 : ((m : Int) + 2).toNat = m + 2 := by omega
    have b2 : ((m : Int) + 16).toNat = m + 16 := by omega
    have b3 : (0 : Int) ≤ (m : Int) + 2 := by omega
    have b4 : (0 : Int) ≤ (m : Int) + 16 := by omega
    have b5 : m + 2 ≤ m + 16 := by omega
    have b6 : m + 16 ≤ s.length := by omega
    have r1 : (i + 1) * 24 ≤ room := by unfold room; omega
    have r2 : i + 1 ≤ room := by unfold room; omega
    (repeat (first
    | (apply is_ok; (case hw => simp [g1, v2, v3, w1, b1, b2, b3, b4, b5, b6, r1, r2, entV]); (case he => simp [g1, v2, v3, w1, b1, b2, b3, b4, b5, b6, r1, r2, entV]; exact is_rfl))
    | (apply op_no; (case hw => simp [g1, v2, v3, w1, b1, b2, b3, b4, b5, b6, r1, r2, entV]))
    | refine op_nil ?_ | refine next_normal ?_ | refine go_seq ?_ | refine go_region ?_ | refine go_skip ?_ | refine go_block ?_ | refine inb_normal ?_
    | (apply go_yes; (case hc => simp [g1, v2, v3, w1, b1, b2, b3, b4, b5, b6, r1, r2, entV])) | (apply go_no; (case hc => simp [g1, v2, v3, w1, b1, b2, b3, b4, b5, b6, r1, r2, entV]))
    | refine go_exit ?_ | refine next_exit ?_ | refine inb_here ?_ | refine inb_past (by decide) ?_ | refine go_ret ?_ | refine next_ret ?_ | refine inb_ret ?_))
    exact ⟨hlt, by simp [w1, entV], trivial⟩
  · have : i = N := by omega
    subst this
    have v4 := valid_eq (decL s i) (by simp; unfold maxLen; omega)
    rw [decL_length] at v4
    rw [← hn]
    have g1 : ¬ (s.length : Int) < s.length := by omega
    cases hv : (validB [] (decL s i) && decide (i ≤ 64)) with
    | true =>
      rw [hv] at v4
      have hp : parE s = 0 := by
        unfold parE
        rw [if_neg (by omega), hN, hv]
        rfl
      rw [parR_ok hp, hN] at hR
      subst hR
      (repeat (first
    | (apply is_ok; (case hw => simp [g1, v4]); (case he => simp [g1, v4]; exact is_rfl))
    | (apply op_no; (case hw => simp [g1, v4]))
    | refine op_nil ?_ | refine next_normal ?_ | refine go_seq ?_ | refine go_region ?_ | refine go_skip ?_ | refine go_block ?_ | refine inb_normal ?_
    | (apply go_yes; (case hc => simp [g1, v4])) | (apply go_no; (case hc => simp [g1, v4]))
    | refine go_exit ?_ | refine next_exit ?_ | refine inb_here ?_ | refine inb_past (by decide) ?_ | refine go_ret ?_ | refine next_ret ?_ | refine inb_ret ?_))
      (apply ends_ok; (case h1 => simp; exact is_rfl); (case h2 => simp; exact is_rfl))
      simp
    | false =>
      rw [hv] at v4
      have hp : parE s = 9 := by
        unfold parE
        rw [if_neg (by omega), hN, hv]
        rfl
      rw [parR_err hp] at hR
      subst hR
      (repeat (first
    | (apply is_ok; (case hw => simp [g1, v4]); (case he => simp [g1, v4]; exact is_rfl))
    | (apply op_no; (case hw => simp [g1, v4]))
    | refine op_nil ?_ | refine next_normal ?_ | refine go_seq ?_ | refine go_region ?_ | refine go_skip ?_ | refine go_block ?_ | refine inb_normal ?_
    | (apply go_yes; (case hc => simp [g1, v4])) | (apply go_no; (case hc => simp [g1, v4]))
    | refine go_exit ?_ | refine next_exit ?_ | refine inb_here ?_ | refine inb_past (by decide) ?_ | refine go_ret ?_ | refine next_ret ?_ | refine inb_ret ?_))
      (apply ends_ok; (case h1 => simp; exact is_rfl); (case h2 => simp; exact is_rfl))
      simp

end Go.Abs
