/- Proved here: what functions of the program compute, over the evaluator. No condition but those that each theorem states. -/
import Derived.Test.YtefdoccoajhefaaDoorG1
import Derived.Test.YtefdoccoajhefaaDoorG3
namespace Go.Abs
open Go.Proofs
set_option maxRecDepth 100000
set_option linter.unusedSimpArgs false
set_option linter.unusedVariables false

theorem partsF_length : ∀ (n : Nat) (s : List UInt8), (partsF n s).length ≤ n
  | 0, _ => by simp [partsF]
  | n + 1, s => by
    have := partsF_length n (cutB s)
    rw [partsF]
    split
    · simp
    · split
      · omega
      · rw [List.length_cons]; omega

theorem L_DirPaths (s : List UInt8) : bodyW DC 3 [.str s] [] = some (.bool true, []) := by
  by_cases h0 : (300 : Int) < s.length
  · (refine gives_iff ?_; refine go_func Tryd.f3 rfl rfl (by simp [Tryd.f3]) ?_; dsimp only [codeL, Tryd.f3, scL, sopsL, guardL, dstAt, loopKey])
    (repeat (first
    | (apply is_ok; (case hw => simp [h0, alive39_eq]); (case he => simp [h0, alive39_eq]; exact is_rfl))
    | (apply op_no; (case hw => simp [h0, alive39_eq]))
    | refine op_nil ?_ | refine next_normal ?_ | refine go_seq ?_ | refine go_region ?_ | refine go_skip ?_ | refine go_block ?_ | refine inb_normal ?_
    | (apply go_yes; (case hc => simp [h0, alive39_eq])) | (apply go_no; (case hc => simp [h0, alive39_eq]))
    | refine go_exit ?_ | refine next_exit ?_ | refine inb_here ?_ | refine inb_past (by decide) ?_ | refine go_ret ?_ | refine next_ret ?_ | refine inb_ret ?_))
    (apply ends_ok; (case h1 => simp; exact is_rfl); (case h2 => simp; exact is_rfl))
    exact ⟨rfl, rfl⟩
  have v1 := dirValid_eq s
  have v2 := refValid_eq s
  have hr := refSplit_eq s
  by_cases h1 : s = []
  · have hx : splitX [.str s] = some (.tuple [.bool false, .nils, .int .i64 4], []) := by simp [splitX, h1]
    rw [splitR, if_pos h1] at hr
    (refine gives_iff ?_; refine go_func Tryd.f3 rfl rfl (by simp [Tryd.f3]) ?_; dsimp only [codeL, Tryd.f3, scL, sopsL, guardL, dstAt, loopKey])
    (repeat (first
    | (apply is_ok; (case hw => simp [h0, v1, v2, hr, hx]); (case he => simp [h0, v1, v2, hr, hx]; exact is_rfl))
    | (apply op_no; (case hw => simp [h0, v1, v2, hr, hx]))
    | refine op_nil ?_ | refine next_normal ?_ | refine go_seq ?_ | refine go_region ?_ | refine go_skip ?_ | refine go_block ?_ | refine inb_normal ?_
    | (apply go_yes; (case hc => simp [h0, v1, v2, hr, hx])) | (apply go_no; (case hc => simp [h0, v1, v2, hr, hx]))
    | refine go_exit ?_ | refine next_exit ?_ | refine inb_here ?_ | refine inb_past (by decide) ?_ | refine go_ret ?_ | refine next_ret ?_ | refine inb_ret ?_))
    refine go_count 0 (fun i => [(4, .own 0 0 0 0), (7, .own 1 0 0 0), (9, .int .i64 0)]) (fun i => [.dat true 1 [], .dat true 1 []]) (fun _ => True) (by simp) trivial fun i hi _ => ?_
    (repeat (first
    | (apply is_ok; (case hw => simp [alive39_eq]); (case he => simp [alive39_eq]; exact is_rfl))
    | (apply op_no; (case hw => simp [alive39_eq]))
    | refine op_nil ?_ | refine next_normal ?_ | refine go_seq ?_ | refine go_region ?_ | refine go_skip ?_ | refine go_block ?_ | refine inb_normal ?_
    | (apply go_yes; (case hc => simp [alive39_eq])) | (apply go_no; (case hc => simp [alive39_eq]))
    | refine go_exit ?_ | refine next_exit ?_ | refine inb_here ?_ | refine inb_past (by decide) ?_ | refine go_ret ?_ | refine next_ret ?_ | refine inb_ret ?_))
    (apply ends_ok; (case h1 => simp; exact is_rfl); (case h2 => simp; exact is_rfl))
    exact ⟨rfl, rfl⟩
  by_cases h2 : 256 < s.length
  · have hx : splitX [.str s] = some (.tuple [.bool false, .nils, .int .i64 7], []) := by simp [splitX, h1, h2]
    rw [splitR, if_neg h1, if_pos h2] at hr
    (refine gives_iff ?_; refine go_func Tryd.f3 rfl rfl (by simp [Tryd.f3]) ?_; dsimp only [codeL, Tryd.f3, scL, sopsL, guardL, dstAt, loopKey])
    (repeat (first
    | (apply is_ok; (case hw => simp [h0, v1, v2, hr, hx]); (case he => simp [h0, v1, v2, hr, hx]; exact is_rfl))
    | (apply op_no; (case hw => simp [h0, v1, v2, hr, hx]))
    | refine op_nil ?_ | refine next_normal ?_ | refine go_seq ?_ | refine go_region ?_ | refine go_skip ?_ | refine go_block ?_ | refine inb_normal ?_
    | (apply go_yes; (case hc => simp [h0, v1, v2, hr, hx])) | (apply go_no; (case hc => simp [h0, v1, v2, hr, hx]))
    | refine go_exit ?_ | refine next_exit ?_ | refine inb_here ?_ | refine inb_past (by decide) ?_ | refine go_ret ?_ | refine next_ret ?_ | refine inb_ret ?_))
    refine go_count 0 (fun i => [(4, .own 0 0 0 0), (7, .own 1 0 0 0), (9, .int .i64 0)]) (fun i => [.dat true 1 [], .dat true 1 []]) (fun _ => True) (by simp) trivial fun i hi _ => ?_
    (repeat (first
    | (apply is_ok; (case hw => simp [alive39_eq]); (case he => simp [alive39_eq]; exact is_rfl))
    | (apply op_no; (case hw => simp [alive39_eq]))
    | refine op_nil ?_ | refine next_normal ?_ | refine go_seq ?_ | refine go_region ?_ | refine go_skip ?_ | refine go_block ?_ | refine inb_normal ?_
    | (apply go_yes; (case hc => simp [alive39_eq])) | (apply go_no; (case hc => simp [alive39_eq]))
    | refine go_exit ?_ | refine next_exit ?_ | refine inb_here ?_ | refine inb_past (by decide) ?_ | refine go_ret ?_ | refine next_ret ?_ | refine inb_ret ?_))
    (apply ends_ok; (case h1 => simp; exact is_rfl); (case h2 => simp; exact is_rfl))
    exact ⟨rfl, rfl⟩
  rw [splitR, if_neg h1, if_neg h2, runS_eq s [] [] s.length (by simp) (by simp)] at hr
  rw [List.nil_append] at hr
  by_cases h3 : (partsF s.length s).all nameOk = true
  · have hx : splitX [.str s] = some (.tuple [.bool (s.head? == some 47), .own 0 (partsF s.length s).length 0 (partsF s.length s).length, .int .i64 0], [.dat true 1 ((partsF s.length s).map V.str)]) := by
      simp only [splitX]
      rw [if_neg h1, if_neg h2, if_pos h3]
    rw [if_pos h3, List.nil_append] at hr
    simp only at hr
    have hL := partsF_length s.length s
    generalize partsF s.length s = L at hx hr hL
    generalize (s.head? == some 47) = bb at hx hr
    (refine gives_iff ?_; refine go_func Tryd.f3 rfl rfl (by simp [Tryd.f3]) ?_; dsimp only [codeL, Tryd.f3, scL, sopsL, guardL, dstAt, loopKey])
    (repeat (first
    | (apply is_ok; (case hw => simp [h0, v1, v2, hr, hx]); (case he => simp [h0, v1, v2, hr, hx]; exact is_rfl))
    | (apply op_no; (case hw => simp [h0, v1, v2, hr, hx]))
    | refine op_nil ?_ | refine next_normal ?_ | refine go_seq ?_ | refine go_region ?_ | refine go_skip ?_ | refine go_block ?_ | refine inb_normal ?_
    | (apply go_yes; (case hc => simp [h0, v1, v2, hr, hx])) | (apply go_no; (case hc => simp [h0, v1, v2, hr, hx]))
    | refine go_exit ?_ | refine next_exit ?_ | refine inb_here ?_ | refine inb_past (by decide) ?_ | refine go_ret ?_ | refine next_ret ?_ | refine inb_ret ?_))
    refine go_count L.length (fun i => [(4, .own 0 L.length 0 L.length), (7, .own 1 L.length 0 L.length), (9, .int .i64 i)]) (fun i => [.dat true 1 (L.map V.str), .dat true 1 (L.map V.str)]) (fun _ => True) (by simp) trivial fun i hi _ => ?_
    by_cases hlt : i < L.length
    · have g1 : (i : Int) < L.length := by omega
      have g2 : L[i]? = some L[i] := List.getElem?_eq_getElem hlt
      have w1 : IntKind.i64.wrap ((i : Int) + 1) = (i : Int) + 1 := wrap_id (by omega) (by omega)
      (repeat (first
    | (apply is_ok; (case hw => simp [g1, hlt, g2, w1]); (case he => simp [g1, hlt, g2, w1]; exact is_rfl))
    | (apply op_no; (case hw => simp [g1, hlt, g2, w1]))
    | refine op_nil ?_ | refine next_normal ?_ | refine go_seq ?_ | refine go_region ?_ | refine go_skip ?_ | refine go_block ?_ | refine inb_normal ?_
    | (apply go_yes; (case hc => simp [g1, hlt, g2, w1])) | (apply go_no; (case hc => simp [g1, hlt, g2, w1]))
    | refine go_exit ?_ | refine next_exit ?_ | refine inb_here ?_ | refine inb_past (by decide) ?_ | refine go_ret ?_ | refine next_ret ?_ | refine inb_ret ?_))
      exact ⟨hlt, by simp [w1], trivial⟩
    · have g1 : ¬ (i : Int) < L.length := by omega
      (repeat (first
    | (apply is_ok; (case hw => simp [g1, alive39_eq]); (case he => simp [g1, alive39_eq]; exact is_rfl))
    | (apply op_no; (case hw => simp [g1, alive39_eq]))
    | refine op_nil ?_ | refine next_normal ?_ | refine go_seq ?_ | refine go_region ?_ | refine go_skip ?_ | refine go_block ?_ | refine inb_normal ?_
    | (apply go_yes; (case hc => simp [g1, alive39_eq])) | (apply go_no; (case hc => simp [g1, alive39_eq]))
    | refine go_exit ?_ | refine next_exit ?_ | refine inb_here ?_ | refine inb_past (by decide) ?_ | refine go_ret ?_ | refine next_ret ?_ | refine inb_ret ?_))
      (apply ends_ok; (case h1 => simp; exact is_rfl); (case h2 => simp; exact is_rfl))
      exact ⟨rfl, rfl⟩
  · have hx : splitX [.str s] = some (.tuple [.bool false, .nils, .int .i64 4], []) := by
      simp only [splitX]
      rw [if_neg h1, if_neg h2, if_neg h3]
    rw [if_neg h3] at hr
    simp only at hr
    (refine gives_iff ?_; refine go_func Tryd.f3 rfl rfl (by simp [Tryd.f3]) ?_; dsimp only [codeL, Tryd.f3, scL, sopsL, guardL, dstAt, loopKey])
    (repeat (first
    | (apply is_ok; (case hw => simp [h0, v1, v2, hr, hx]); (case he => simp [h0, v1, v2, hr, hx]; exact is_rfl))
    | (apply op_no; (case hw => simp [h0, v1, v2, hr, hx]))
    | refine op_nil ?_ | refine next_normal ?_ | refine go_seq ?_ | refine go_region ?_ | refine go_skip ?_ | refine go_block ?_ | refine inb_normal ?_
    | (apply go_yes; (case hc => simp [h0, v1, v2, hr, hx])) | (apply go_no; (case hc => simp [h0, v1, v2, hr, hx]))
    | refine go_exit ?_ | refine next_exit ?_ | refine inb_here ?_ | refine inb_past (by decide) ?_ | refine go_ret ?_ | refine next_ret ?_ | refine inb_ret ?_))
    refine go_count 0 (fun i => [(4, .own 0 0 0 0), (7, .own 1 0 0 0), (9, .int .i64 0)]) (fun i => [.dat true 1 [], .dat true 1 []]) (fun _ => True) (by simp) trivial fun i hi _ => ?_
    (repeat (first
    | (apply is_ok; (case hw => simp [alive39_eq]); (case he => simp [alive39_eq]; exact is_rfl))
    | (apply op_no; (case hw => simp [alive39_eq]))
    | refine op_nil ?_ | refine next_normal ?_ | refine go_seq ?_ | refine go_region ?_ | refine go_skip ?_ | refine go_block ?_ | refine inb_normal ?_
    | (apply go_yes; (case hc => simp [alive39_eq])) | (apply go_no; (case hc => simp [alive39_eq]))
    | refine go_exit ?_ | refine next_exit ?_ | refine inb_here ?_ | refine inb_past (by decide) ?_ | refine go_ret ?_ | refine next_ret ?_ | refine inb_ret ?_))
    (apply ends_ok; (case h1 => simp; exact is_rfl); (case h2 => simp; exact is_rfl))
    exact ⟨rfl, rfl⟩
end Go.Abs
