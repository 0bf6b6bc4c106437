/- Proved here: what functions of the program compute, over the evaluator. No condition but those that each theorem states. -/
import Derived.Test.YtpffmpllnpmkbaaE21
namespace Go.Abs
open Go.Proofs
set_option maxRecDepth 100000
set_option linter.unusedSimpArgs false
set_option linter.unusedVariables false

theorem made_eq (S : List (List UInt8)) (B : List Int) (hS : S.length ≤ 1000000) (hB : B.length ≤ 1000000) (w : Int × List UInt8) (h : faultI S.length B w = 0) :
    bodyW DC 31 [drv S B, wrV w] [] = some (.tuple [.agg [.own 0 S.length 0 S.length, .own 1 B.length 0 B.length], .bool true], [.dat true 1 (strs (putS S w)), .dat true 1 (ints B)]) := by
  have hA := Apply_eq S B hS hB [w] (by simp) (-1)
  have e : applyS B (-1) S 0 [w] = (putS S w, 1, 0) := by
    simp only [applyS]
    rw [if_neg (by decide), if_pos h]
  rw [e] at hA
  simp only [List.map_cons, List.map_nil] at hA
  (refine gives_iff ?_; refine go_func Try.f31 rfl rfl (by simp [Try.f31]) ?_; dsimp only [codeL, Try.f31, scL, sopsL, guardL, dstAt, loopKey])
  (repeat (first
    | (apply is_ok; (case hw => simp [hA]); (case he => simp [hA]; exact is_rfl))
    | (apply op_no; (case hw => simp [hA]))
    | refine op_nil ?_ | refine next_normal ?_ | refine go_seq ?_ | refine go_region ?_ | refine go_skip ?_ | refine go_block ?_ | refine inb_normal ?_
    | (apply go_yes; (case hc => simp [hA])) | (apply go_no; (case hc => simp [hA]))
    | refine go_exit ?_ | refine next_exit ?_ | refine inb_here ?_ | refine inb_past (by decide) ?_ | refine go_ret ?_ | refine next_ret ?_ | refine inb_ret ?_))
  (apply ends_ok; (case h1 => simp; exact is_rfl); (case h2 => simp; exact is_rfl))
  simp

set_option maxHeartbeats 4000000 in
theorem InodeReturns_eq (S : List (List UInt8)) (B : List Int) (hS : S.length ≤ maxLen) (hB : B.length ≤ maxLen) (n k l z : Int) (L : List Int) (hL : L.length = 8) (hX : In64 (k :: l :: z :: L)) :
    bodyW DC 7 [drv S B, .int .i64 n, inoV k l z L] [] = some (.bool true, []) := by
  have hM := small38_eq S B hS
  by_cases hs : SmallD S B
  case neg =>
    (refine gives_iff ?_; refine go_func Try.f7 rfl rfl (by simp [Try.f7]) ?_; dsimp only [codeL, Try.f7, scL, sopsL, guardL, dstAt, loopKey])
    (repeat (first
    | (apply is_ok; (case hw => simp [hL, hM, hs]); (case he => simp [hL, hM, hs]; exact is_rfl))
    | (apply op_no; (case hw => simp [hL, hM, hs]))
    | refine op_nil ?_ | refine next_normal ?_ | refine go_seq ?_ | refine go_region ?_ | refine go_skip ?_ | refine go_block ?_ | refine inb_normal ?_
    | (apply go_yes; (case hc => simp [hL, hM, hs])) | (apply go_no; (case hc => simp [hL, hM, hs]))
    | refine go_exit ?_ | refine next_exit ?_ | refine inb_here ?_ | refine inb_past (by decide) ?_ | refine go_ret ?_ | refine next_ret ?_ | refine inb_ret ?_))
    (apply ends_ok; (case h1 => simp; exact is_rfl); (case h2 => simp; exact is_rfl))
    simp
  have hRt := RightR_eq S B hB
  by_cases hr : RightP S B
  case neg =>
    (refine gives_iff ?_; refine go_func Try.f7 rfl rfl (by simp [Try.f7]) ?_; dsimp only [codeL, Try.f7, scL, sopsL, guardL, dstAt, loopKey])
    (repeat (first
    | (apply is_ok; (case hw => simp [hL, hM, hs, hRt, hr]); (case he => simp [hL, hM, hs, hRt, hr]; exact is_rfl))
    | (apply op_no; (case hw => simp [hL, hM, hs, hRt, hr]))
    | refine op_nil ?_ | refine next_normal ?_ | refine go_seq ?_ | refine go_region ?_ | refine go_skip ?_ | refine go_block ?_ | refine inb_normal ?_
    | (apply go_yes; (case hc => simp [hL, hM, hs, hRt, hr])) | (apply go_no; (case hc => simp [hL, hM, hs, hRt, hr]))
    | refine go_exit ?_ | refine next_exit ?_ | refine inb_here ?_ | refine inb_past (by decide) ?_ | refine go_ret ?_ | refine next_ret ?_ | refine inb_ret ?_))
    (apply ends_ok; (case h1 => simp; exact is_rfl); (case h2 => simp; exact is_rfl))
    simp
  have hA := alive38_eq
  have hP := Put38_eq S B hB n k l z L hL hX
  by_cases he : (putW S B n k l z L).2 = 0
  case neg =>
    have h0 : (putW S B n k l z L).1 = (0, []) := by
      unfold putW at he ⊢
      split at he
      · rename_i h1
        rw [if_pos h1]
        split at he
        · exact absurd rfl he
        · rename_i h2
          rw [if_neg h2]
      · rename_i h1
        rw [if_neg h1]
    rw [h0] at hP
    have hE2 := same_wr 0 []
    (refine gives_iff ?_; refine go_func Try.f7 rfl rfl (by simp [Try.f7]) ?_; dsimp only [codeL, Try.f7, scL, sopsL, guardL, dstAt, loopKey])
    (repeat (first
    | (apply is_ok; (case hw => simp [-binV, hL, hM, hs, hRt, hr, hP, he, hA, hE2]); (case he => simp [-binV, hL, hM, hs, hRt, hr, hP, he, hA, hE2]; exact is_rfl))
    | (apply op_no; (case hw => simp [-binV, hL, hM, hs, hRt, hr, hP, he, hA, hE2]))
    | refine op_nil ?_ | refine next_normal ?_ | refine go_seq ?_ | refine go_region ?_ | refine go_skip ?_ | refine go_block ?_ | refine inb_normal ?_
    | (apply go_yes; (case hc => simp [-binV, hL, hM, hs, hRt, hr, hP, he, hA, hE2])) | (apply go_no; (case hc => simp [-binV, hL, hM, hs, hRt, hr, hP, he, hA, hE2]))
    | refine go_exit ?_ | refine next_exit ?_ | refine inb_here ?_ | refine inb_past (by decide) ?_ | refine go_ret ?_ | refine next_ret ?_ | refine inb_ret ?_))
    (apply ends_ok; (case h1 => simp; exact is_rfl); (case h2 => simp; exact is_rfl))
    simp
  obtain ⟨hv, hn1, hn2, hval, hrd, hlen, hf, hw, _⟩ := put_ok hL he
  have hgp := fun i => get_put hL he i
  have b1 : S.length ≤ 1000000 := by have := hs.2.1; omega
  have b2 : B.length ≤ 1000000 := by have := hs.2.2; omega
  have hMd := made_eq S B b1 b2 _ hf
  have hG := fun i => Get38_eq (putS S (putW S B n k l z L).1) B hB i
  simp only [hgp] at hG
  rw [he] at hP
  have hl' : (strs (putS S (putW S B n k l z L).1)).length = S.length := by simp [putS_length]
  generalize hT : putS S (putW S B n k l z L).1 = T at hMd hG hl'
  generalize putW S B n k l z L = p at hP hMd hw
  have hGn := hG n
  rw [if_pos rfl, if_pos rfl] at hGn
  have hBy := Bytes_eq k l z L hL hX
  have hPs := Parse_eq (bytesI k l z L)
  rw [(parse_bytes hL hval).1, (parse_bytes hL hval).2] at hPs
  have hE := eq_ino k l z k l z L L hL hL
  rw [decide_eq_true ⟨rfl, rfl, rfl, rfl⟩] at hE
  obtain ⟨hE1, hE2⟩ := hE
  (refine gives_iff ?_; refine go_func Try.f7 rfl rfl (by simp [Try.f7]) ?_; dsimp only [codeL, Try.f7, scL, sopsL, guardL, dstAt, loopKey])
  (repeat (first
    | (apply is_ok; (case hw => simp [-binV, hL, hM, hs, hRt, hr, hP, hMd, hl', hGn, hE1, hE2]); (case he => simp [-binV, hL, hM, hs, hRt, hr, hP, hMd, hl', hGn, hE1, hE2]; exact is_rfl))
    | (apply op_no; (case hw => simp [-binV, hL, hM, hs, hRt, hr, hP, hMd, hl', hGn, hE1, hE2]))
    | refine op_nil ?_ | refine next_normal ?_ | refine go_seq ?_ | refine go_region ?_ | refine go_skip ?_ | refine go_block ?_ | refine inb_normal ?_
    | (apply go_yes; (case hc => simp [-binV, hL, hM, hs, hRt, hr, hP, hMd, hl', hGn, hE1, hE2])) | (apply go_no; (case hc => simp [-binV, hL, hM, hs, hRt, hr, hP, hMd, hl', hGn, hE1, hE2]))
    | refine go_exit ?_ | refine next_exit ?_ | refine inb_here ?_ | refine inb_past (by decide) ?_ | refine go_ret ?_ | refine next_ret ?_ | refine inb_ret ?_))
  refine go_count 31 (fun i => [(1, .int .i64 n), (3, .ptr 0 1 0 0), (5, .ptr 1 1 0 0), (9, .ptr 2 1 0 0), (13, .int .i64 ((i + 1 : Nat) : Int))])
    (fun i => [.box (drv S B), .box (inoV k l z L), .box (.agg [.own 3 S.length 0 S.length, .own 4 B.length 0 B.length]), .dat true 1 (strs T), .dat true 1 (ints B)]) (fun _ => True) (by simp) trivial fun i hi _ => ?_
  generalize hj : i + 1 = j
  have hw' : IntKind.i64.wrap ((j : Int) + 1) = ((j + 1 : Nat) : Int) := wrap_id (by omega) (by omega)
  by_cases hlt : j < 32
  · have hlt' : (j : Int) < 32 := by omega
    have hG1 := Get38_eq S B hB j
    have hG2 := hG j
    by_cases hjn : (j : Int) = n
    · rw [if_pos hjn, if_pos hjn] at hG2
      obtain ⟨k', l', z', a, b, c, d, e', f, g, h, hsh, _⟩ := getV_shape S B j
      rw [hsh] at hG1
      subst hjn
      (repeat (first
    | (apply is_ok; (case hw => simp [-binV, binV_ii, hL, hlt', hl', hG1, hG2]); (case he => simp [-binV, binV_ii, hL, hlt', hl', hG1, hG2]; exact is_rfl))
    | (apply op_no; (case hw => simp [-binV, binV_ii, hL, hlt', hl', hG1, hG2]))
    | refine op_nil ?_ | refine next_normal ?_ | refine go_seq ?_ | refine go_region ?_ | refine go_skip ?_ | refine go_block ?_ | refine inb_normal ?_
    | (apply go_yes; (case hc => simp [-binV, binV_ii, hL, hlt', hl', hG1, hG2])) | (apply go_no; (case hc => simp [-binV, binV_ii, hL, hlt', hl', hG1, hG2]))
    | refine go_exit ?_ | refine next_exit ?_ | refine inb_here ?_ | refine inb_past (by decide) ?_ | refine go_ret ?_ | refine next_ret ?_ | refine inb_ret ?_))
      exact ⟨by omega, by simp [hw', hj], trivial⟩
    · rw [if_neg hjn, if_neg hjn] at hG2
      obtain ⟨k', l', z', a, b, c, d, e', f, g, h, hsh, _⟩ := getV_shape S B j
      rw [hsh] at hG1 hG2
      have hE' := (eq_ino k' l' z' k' l' z' [a, b, c, d, e', f, g, h] [a, b, c, d, e', f, g, h] rfl rfl).2
      rw [decide_eq_true ⟨rfl, rfl, rfl, rfl⟩] at hE'
      simp only [inoV, ints, List.map_cons, List.map_nil] at hE'
      generalize getE S B j = ge at hG1 hG2
      (repeat (first
    | (apply is_ok; (case hw => simp [-binV, binV_ii, hL, hlt', hl', hG1, hG2, hjn, hE']); (case he => simp [-binV, binV_ii, hL, hlt', hl', hG1, hG2, hjn, hE']; exact is_rfl))
    | (apply op_no; (case hw => simp [-binV, binV_ii, hL, hlt', hl', hG1, hG2, hjn, hE']))
    | refine op_nil ?_ | refine next_normal ?_ | refine go_seq ?_ | refine go_region ?_ | refine go_skip ?_ | refine go_block ?_ | refine inb_normal ?_
    | (apply go_yes; (case hc => simp [-binV, binV_ii, hL, hlt', hl', hG1, hG2, hjn, hE'])) | (apply go_no; (case hc => simp [-binV, binV_ii, hL, hlt', hl', hG1, hG2, hjn, hE']))
    | refine go_exit ?_ | refine next_exit ?_ | refine inb_here ?_ | refine inb_past (by decide) ?_ | refine go_ret ?_ | refine next_ret ?_ | refine inb_ret ?_))
      exact ⟨by omega, by simp [hw', hj], trivial⟩
  · have hlt' : ¬ (j : Int) < 32 := by omega
    (repeat (first
    | (apply is_ok; (case hw => simp [-binV, binV_ii, hL, hlt', hBy, hPs, hE1, hA]); (case he => simp [-binV, binV_ii, hL, hlt', hBy, hPs, hE1, hA]; exact is_rfl))
    | (apply op_no; (case hw => simp [-binV, binV_ii, hL, hlt', hBy, hPs, hE1, hA]))
    | refine op_nil ?_ | refine next_normal ?_ | refine go_seq ?_ | refine go_region ?_ | refine go_skip ?_ | refine go_block ?_ | refine inb_normal ?_
    | (apply go_yes; (case hc => simp [-binV, binV_ii, hL, hlt', hBy, hPs, hE1, hA])) | (apply go_no; (case hc => simp [-binV, binV_ii, hL, hlt', hBy, hPs, hE1, hA]))
    | refine go_exit ?_ | refine next_exit ?_ | refine inb_here ?_ | refine inb_past (by decide) ?_ | refine go_ret ?_ | refine next_ret ?_ | refine inb_ret ?_))
    (apply ends_ok; (case h1 => simp; exact is_rfl); (case h2 => simp; exact is_rfl))
    simp
end Go.Abs
