/- Proved here: what functions of the program compute, over the evaluator. No condition but those that each theorem states. -/
import Derived.Test.YtoeakhllpijkiaaD10
namespace Go.Abs
open Go.Proofs
set_option maxRecDepth 100000
set_option linter.unusedSimpArgs false

def SmallP (l : List (Int × List UInt8)) : Prop := l.length ≤ 60 ∧ ∀ w ∈ l, w.2.length ≤ 200
instance (l : List (Int × List UInt8)) : Decidable (SmallP l) := by unfold SmallP; infer_instance

theorem small_eq (l : List (Int × List UInt8)) : bodyW DC 21 [.sl (l.map wrV)] [] = some (.bool (decide (SmallP l)), []) := by
  (refine gives_iff ?_; refine go_func Try.f21 rfl rfl (by simp [Try.f21]) ?_; dsimp only [codeL, Try.f21, scL, sopsL, guardL, dstAt, loopKey])
  by_cases h1 : l.length ≤ 60
  case neg =>
    have e1 : (60 : Int) < l.length := by omega
    (repeat (first
    | (apply is_ok; (case hw => simp [e1]); (case he => simp [e1]; exact is_rfl))
    | (apply op_no; (case hw => simp [e1]))
    | refine op_nil ?_ | refine next_normal ?_ | refine go_seq ?_ | refine go_region ?_ | refine go_skip ?_ | refine go_block ?_ | refine inb_normal ?_
    | (apply go_yes; (case hc => simp [e1])) | (apply go_no; (case hc => simp [e1]))
    | refine go_exit ?_ | refine next_exit ?_ | refine inb_here ?_ | refine inb_past (by decide) ?_ | refine go_ret ?_ | refine next_ret ?_ | refine inb_ret ?_))
    (apply ends_ok; (case h1 => simp; exact is_rfl); (case h2 => simp; exact is_rfl))
    have : ¬ SmallP l := fun h => h1 h.1
    simp [this]
  have e1 : ¬ ((60 : Int) < l.length) := by omega
  (repeat (first
    | (apply is_ok; (case hw => simp [e1]); (case he => simp [e1]; exact is_rfl))
    | (apply op_no; (case hw => simp [e1]))
    | refine op_nil ?_ | refine next_normal ?_ | refine go_seq ?_ | refine go_region ?_ | refine go_skip ?_ | refine go_block ?_ | refine inb_normal ?_
    | (apply go_yes; (case hc => simp [e1])) | (apply go_no; (case hc => simp [e1]))
    | refine go_exit ?_ | refine next_exit ?_ | refine inb_here ?_ | refine inb_past (by decide) ?_ | refine go_ret ?_ | refine next_ret ?_ | refine inb_ret ?_))
  refine go_count l.length (fun i => [(0, .sl (l.map wrV)), (3, .int .i64 i)]) (fun i => []) (fun i => ∀ j (hj : j < l.length), j < i → l[j].2.length ≤ 200) (by simp) (by simp) fun i hi hI => ?_
  have hw : IntKind.i64.wrap ((i : Int) + 1) = (i : Int) + 1 := wrap_id (by omega) (by omega)
  by_cases hlt : i < l.length
  · by_cases h3 : l[i].2.length ≤ 200
    · have e3 : ¬ ((200 : Int) < l[i].2.length) := by omega
      (repeat (first
    | (apply is_ok; (case hw => simp [hlt, e3]); (case he => simp [hlt, e3]; exact is_rfl))
    | (apply op_no; (case hw => simp [hlt, e3]))
    | refine op_nil ?_ | refine next_normal ?_ | refine go_seq ?_ | refine go_region ?_ | refine go_skip ?_ | refine go_block ?_ | refine inb_normal ?_
    | (apply go_yes; (case hc => simp [hlt, e3])) | (apply go_no; (case hc => simp [hlt, e3]))
    | refine go_exit ?_ | refine next_exit ?_ | refine inb_here ?_ | refine inb_past (by decide) ?_ | refine go_ret ?_ | refine next_ret ?_ | refine inb_ret ?_))
      exact ⟨hlt, by simp [hw], fun j hj hji => by
        by_cases hje : j = i
        · subst hje; exact h3
        · exact hI j hj (by omega)⟩
    · have e3 : ((200 : Int) < l[i].2.length) := by omega
      (repeat (first
    | (apply is_ok; (case hw => simp [hlt, e3]); (case he => simp [hlt, e3]; exact is_rfl))
    | (apply op_no; (case hw => simp [hlt, e3]))
    | refine op_nil ?_ | refine next_normal ?_ | refine go_seq ?_ | refine go_region ?_ | refine go_skip ?_ | refine go_block ?_ | refine inb_normal ?_
    | (apply go_yes; (case hc => simp [hlt, e3])) | (apply go_no; (case hc => simp [hlt, e3]))
    | refine go_exit ?_ | refine next_exit ?_ | refine inb_here ?_ | refine inb_past (by decide) ?_ | refine go_ret ?_ | refine next_ret ?_ | refine inb_ret ?_))
      (apply ends_ok; (case h1 => simp; exact is_rfl); (case h2 => simp; exact is_rfl))
      have : ¬ SmallP l := fun h => h3 (h.2 _ (List.getElem_mem hlt))
      simp [this]
  · (repeat (first
    | (apply is_ok; (case hw => simp [hlt]); (case he => simp [hlt]; exact is_rfl))
    | (apply op_no; (case hw => simp [hlt]))
    | refine op_nil ?_ | refine next_normal ?_ | refine go_seq ?_ | refine go_region ?_ | refine go_skip ?_ | refine go_block ?_ | refine inb_normal ?_
    | (apply go_yes; (case hc => simp [hlt])) | (apply go_no; (case hc => simp [hlt]))
    | refine go_exit ?_ | refine next_exit ?_ | refine inb_here ?_ | refine inb_past (by decide) ?_ | refine go_ret ?_ | refine next_ret ?_ | refine inb_ret ?_))
    (apply ends_ok; (case h1 => simp; exact is_rfl); (case h2 => simp; exact is_rfl))
    have : SmallP l := ⟨h1, fun s hs => by
      obtain ⟨j, hj, rfl⟩ := List.getElem_of_mem hs
      exact hI j hj (by omega)⟩
    simp [this]

theorem good_eq (S : List (List UInt8)) (B : List Int) (hB : B.length ≤ maxLen) : bodyW DC 14 [drv S B] [] = some (.bool (decide (FairP S B ∧ RightP S B)), []) := by
  have hF := Fair_eq S B
  have hR := RightR_eq S B hB
  (refine gives_iff ?_; refine go_func Try.f14 rfl rfl (by simp [Try.f14]) ?_; dsimp only [codeL, Try.f14, scL, sopsL, guardL, dstAt, loopKey])
  by_cases h : FairP S B
  · (repeat (first
    | (apply is_ok; (case hw => simp [hF, hR, h]); (case he => simp [hF, hR, h]; exact is_rfl))
    | (apply op_no; (case hw => simp [hF, hR, h]))
    | refine op_nil ?_ | refine next_normal ?_ | refine go_seq ?_ | refine go_region ?_ | refine go_skip ?_ | refine go_block ?_ | refine inb_normal ?_
    | (apply go_yes; (case hc => simp [hF, hR, h])) | (apply go_no; (case hc => simp [hF, hR, h]))
    | refine go_exit ?_ | refine next_exit ?_ | refine inb_here ?_ | refine inb_past (by decide) ?_ | refine go_ret ?_ | refine next_ret ?_ | refine inb_ret ?_))
    (apply ends_ok; (case h1 => simp; exact is_rfl); (case h2 => simp; exact is_rfl))
    simp [h]
  · (repeat (first
    | (apply is_ok; (case hw => simp [hF, h]); (case he => simp [hF, h]; exact is_rfl))
    | (apply op_no; (case hw => simp [hF, h]))
    | refine op_nil ?_ | refine next_normal ?_ | refine go_seq ?_ | refine go_region ?_ | refine go_skip ?_ | refine go_block ?_ | refine inb_normal ?_
    | (apply go_yes; (case hc => simp [hF, h])) | (apply go_no; (case hc => simp [hF, h]))
    | refine go_exit ?_ | refine next_exit ?_ | refine inb_here ?_ | refine inb_past (by decide) ?_ | refine go_ret ?_ | refine next_ret ?_ | refine inb_ret ?_))
    (apply ends_ok; (case h1 => simp; exact is_rfl); (case h2 => simp; exact is_rfl))
    simp [h]

theorem applyS_length (B : List Int) (fuse : Int) : ∀ (l : List (Int × List UInt8)) (S : List (List UInt8)) (i : Nat), (applyS B fuse S i l).1.length = S.length
  | [], S, i => rfl
  | w :: l, S, i => by
    rw [applyS]
    split
    · rfl
    · split
      · rw [applyS_length B fuse l, putS_length]
      · rfl

theorem DriveApplies_eq (S : List (List UInt8)) (B : List Int) (hB : B.length ≤ maxLen) (l : List (Int × List UInt8)) (fuse : Int) : bodyW DC 5 [drv S B, .sl (l.map wrV), .int .i64 fuse] [] = some (.bool true, []) := by
  have hG := good_eq S B hB
  have hM := small_eq l
  have hA := alive_eq
  by_cases h : FairP S B ∧ RightP S B
  case neg =>
    (refine gives_iff ?_; refine go_func Try.f5 rfl rfl (by simp [Try.f5]) ?_; dsimp only [codeL, Try.f5, scL, sopsL, guardL, dstAt, loopKey])
    (repeat (first
    | (apply is_ok; (case hw => simp [hG, h, hA]); (case he => simp [hG, h, hA]; exact is_rfl))
    | (apply op_no; (case hw => simp [hG, h, hA]))
    | refine op_nil ?_ | refine next_normal ?_ | refine go_seq ?_ | refine go_region ?_ | refine go_skip ?_ | refine go_block ?_ | refine inb_normal ?_
    | (apply go_yes; (case hc => simp [hG, h, hA])) | (apply go_no; (case hc => simp [hG, h, hA]))
    | refine go_exit ?_ | refine next_exit ?_ | refine inb_here ?_ | refine inb_past (by decide) ?_ | refine go_ret ?_ | refine next_ret ?_ | refine inb_ret ?_))
    (apply ends_ok; (case h1 => simp; exact is_rfl); (case h2 => simp; exact is_rfl))
    simp
  by_cases h2 : SmallP l
  case neg =>
    (refine gives_iff ?_; refine go_func Try.f5 rfl rfl (by simp [Try.f5]) ?_; dsimp only [codeL, Try.f5, scL, sopsL, guardL, dstAt, loopKey])
    (repeat (first
    | (apply is_ok; (case hw => simp [hG, h, hM, h2, hA]); (case he => simp [hG, h, hM, h2, hA]; exact is_rfl))
    | (apply op_no; (case hw => simp [hG, h, hM, h2, hA]))
    | refine op_nil ?_ | refine next_normal ?_ | refine go_seq ?_ | refine go_region ?_ | refine go_skip ?_ | refine go_block ?_ | refine inb_normal ?_
    | (apply go_yes; (case hc => simp [hG, h, hM, h2, hA])) | (apply go_no; (case hc => simp [hG, h, hM, h2, hA]))
    | refine go_exit ?_ | refine next_exit ?_ | refine inb_here ?_ | refine inb_past (by decide) ?_ | refine go_ret ?_ | refine next_ret ?_ | refine inb_ret ?_))
    (apply ends_ok; (case h1 => simp; exact is_rfl); (case h2 => simp; exact is_rfl))
    simp
  have b1 : S.length ≤ 1000000 := by have := h.1.1; omega
  have b2 : B.length ≤ 1000000 := by have := h.1.2.1; omega
  have b3 : l.length ≤ 1000000 := by have := h2.1; omega
  have hP := Apply_eq S B b1 b2 l b3 fuse
  have hP' := ApplyR_eq S B b1 b2 l b3 fuse
  have hl := applyS_length B fuse l S 0
  generalize applyS B fuse S 0 l = R at hP hP' hl
  have hS := SameDrive_eq R.1 R.1 B B (by omega) (by omega) hB
  (refine gives_iff ?_; refine go_func Try.f5 rfl rfl (by simp [Try.f5]) ?_; dsimp only [codeL, Try.f5, scL, sopsL, guardL, dstAt, loopKey])
  by_cases h0 : R.2.1 = 0
  · simp only [h0, if_true] at hP'
    (repeat (first
    | (apply is_ok; (case hw => simp [hG, h, hM, h2, hA, hP, hP', hS, hl, h0]); (case he => simp [hG, h, hM, h2, hA, hP, hP', hS, hl, h0]; exact is_rfl))
    | (apply op_no; (case hw => simp [hG, h, hM, h2, hA, hP, hP', hS, hl, h0]))
    | refine op_nil ?_ | refine next_normal ?_ | refine go_seq ?_ | refine go_region ?_ | refine go_skip ?_ | refine go_block ?_ | refine inb_normal ?_
    | (apply go_yes; (case hc => simp [hG, h, hM, h2, hA, hP, hP', hS, hl, h0])) | (apply go_no; (case hc => simp [hG, h, hM, h2, hA, hP, hP', hS, hl, h0]))
    | refine go_exit ?_ | refine next_exit ?_ | refine inb_here ?_ | refine inb_past (by decide) ?_ | refine go_ret ?_ | refine next_ret ?_ | refine inb_ret ?_))
    (apply ends_ok; (case h1 => simp; exact is_rfl); (case h2 => simp; exact is_rfl))
    simp
  · rw [if_neg h0] at hP'
    (repeat (first
    | (apply is_ok; (case hw => simp [hG, h, hM, h2, hA, hP, hP', hS, hl]); (case he => simp [hG, h, hM, h2, hA, hP, hP', hS, hl]; exact is_rfl))
    | (apply op_no; (case hw => simp [hG, h, hM, h2, hA, hP, hP', hS, hl]))
    | refine op_nil ?_ | refine next_normal ?_ | refine go_seq ?_ | refine go_region ?_ | refine go_skip ?_ | refine go_block ?_ | refine inb_normal ?_
    | (apply go_yes; (case hc => simp [hG, h, hM, h2, hA, hP, hP', hS, hl])) | (apply go_no; (case hc => simp [hG, h, hM, h2, hA, hP, hP', hS, hl]))
    | refine go_exit ?_ | refine next_exit ?_ | refine inb_here ?_ | refine inb_past (by decide) ?_ | refine go_ret ?_ | refine next_ret ?_ | refine inb_ret ?_))
    (apply ends_ok; (case h1 => simp; exact is_rfl); (case h2 => simp; exact is_rfl))
    simp

theorem DriveDiffs_eq (S T : List (List UInt8)) (B C : List Int) : bodyW DC 6 [drv S B, drv T C] [] = some (.bool true, []) := by
  have hF := Fair_eq S B
  have hF' := Fair_eq T C
  have hA := alive_eq
  by_cases h : FairP S B
  case neg =>
    (refine gives_iff ?_; refine go_func Try.f6 rfl rfl (by simp [Try.f6]) ?_; dsimp only [codeL, Try.f6, scL, sopsL, guardL, dstAt, loopKey])
    (repeat (first
    | (apply is_ok; (case hw => simp [hF, h, hA]); (case he => simp [hF, h, hA]; exact is_rfl))
    | (apply op_no; (case hw => simp [hF, h, hA]))
    | refine op_nil ?_ | refine next_normal ?_ | refine go_seq ?_ | refine go_region ?_ | refine go_skip ?_ | refine go_block ?_ | refine inb_normal ?_
    | (apply go_yes; (case hc => simp [hF, h, hA])) | (apply go_no; (case hc => simp [hF, h, hA]))
    | refine go_exit ?_ | refine next_exit ?_ | refine inb_here ?_ | refine inb_past (by decide) ?_ | refine go_ret ?_ | refine next_ret ?_ | refine inb_ret ?_))
    (apply ends_ok; (case h1 => simp; exact is_rfl); (case h2 => simp; exact is_rfl))
    simp
  by_cases h' : FairP T C
  case neg =>
    (refine gives_iff ?_; refine go_func Try.f6 rfl rfl (by simp [Try.f6]) ?_; dsimp only [codeL, Try.f6, scL, sopsL, guardL, dstAt, loopKey])
    (repeat (first
    | (apply is_ok; (case hw => simp [hF, h, hF', h', hA]); (case he => simp [hF, h, hF', h', hA]; exact is_rfl))
    | (apply op_no; (case hw => simp [hF, h, hF', h', hA]))
    | refine op_nil ?_ | refine next_normal ?_ | refine go_seq ?_ | refine go_region ?_ | refine go_skip ?_ | refine go_block ?_ | refine inb_normal ?_
    | (apply go_yes; (case hc => simp [hF, h, hF', h', hA])) | (apply go_no; (case hc => simp [hF, h, hF', h', hA]))
    | refine go_exit ?_ | refine next_exit ?_ | refine inb_here ?_ | refine inb_past (by decide) ?_ | refine go_ret ?_ | refine next_ret ?_ | refine inb_ret ?_))
    (apply ends_ok; (case h1 => simp; exact is_rfl); (case h2 => simp; exact is_rfl))
    simp
  have b1 : S.length ≤ 1000000 := by have := h.1; omega
  have b2 : T.length ≤ 1000000 := by have := h'.1; omega
  have hD := Diff_eq S T B C b1 b2
  have hD' := DiffR_eq S T B C b1 b2
  have hD2 := Diff_eq S S B B b1 b1
  rw [diffA_nil.2 rfl] at hD2
  have hl := diffL_length S T (max S.length T.length)
  have hlen : (diffA S T).length ≤ 1000000 := by
    show (diffL S T (max S.length T.length)).length ≤ 1000000
    omega
  clear hl
  generalize diffA S T = D at hD hD' hlen
  (refine gives_iff ?_; refine go_func Try.f6 rfl rfl (by simp [Try.f6]) ?_; dsimp only [codeL, Try.f6, scL, sopsL, guardL, dstAt, loopKey])
  (repeat (first
    | (apply is_ok; (case hw => simp [hF, h, hF', h', hD, hD']); (case he => simp [hF, h, hF', h', hD, hD']; exact is_rfl))
    | (apply op_no; (case hw => simp [hF, h, hF', h', hD, hD']))
    | refine op_nil ?_ | refine next_normal ?_ | refine go_seq ?_ | refine go_region ?_ | refine go_skip ?_ | refine go_block ?_ | refine inb_normal ?_
    | (apply go_yes; (case hc => simp [hF, h, hF', h', hD, hD'])) | (apply go_no; (case hc => simp [hF, h, hF', h', hD, hD']))
    | refine go_exit ?_ | refine next_exit ?_ | refine inb_here ?_ | refine inb_past (by decide) ?_ | refine go_ret ?_ | refine next_ret ?_ | refine inb_ret ?_))
  refine go_count D.length (fun i => [(2, .ptr 0 1 0 0), (5, .own 1 D.length 0 D.length), (6, .own 2 D.length 0 D.length), (7, .int .i64 i)]) (fun i => [.box (drv S B), .dat true 1 (ints D), .dat true 1 (ints D)]) (fun _ => True) (by simp) trivial fun i hi _ => ?_
  by_cases hlt : i < D.length
  · have hw : IntKind.i64.wrap ((i : Int) + 1) = (i : Int) + 1 := wrap_id (by omega) (by omega)
    (repeat (first
    | (apply is_ok; (case hw => simp [hlt]); (case he => simp [hlt]; exact is_rfl))
    | (apply op_no; (case hw => simp [hlt]))
    | refine op_nil ?_ | refine next_normal ?_ | refine go_seq ?_ | refine go_region ?_ | refine go_skip ?_ | refine go_block ?_ | refine inb_normal ?_
    | (apply go_yes; (case hc => simp [hlt])) | (apply go_no; (case hc => simp [hlt]))
    | refine go_exit ?_ | refine next_exit ?_ | refine inb_here ?_ | refine inb_past (by decide) ?_ | refine go_ret ?_ | refine next_ret ?_ | refine inb_ret ?_))
    exact ⟨hlt, by simp [hw], trivial⟩
  · (repeat (first
    | (apply is_ok; (case hw => simp [hlt, hD2, hA]); (case he => simp [hlt, hD2, hA]; exact is_rfl))
    | (apply op_no; (case hw => simp [hlt, hD2, hA]))
    | refine op_nil ?_ | refine next_normal ?_ | refine go_seq ?_ | refine go_region ?_ | refine go_skip ?_ | refine go_block ?_ | refine inb_normal ?_
    | (apply go_yes; (case hc => simp [hlt, hD2, hA])) | (apply go_no; (case hc => simp [hlt, hD2, hA]))
    | refine go_exit ?_ | refine next_exit ?_ | refine inb_here ?_ | refine inb_past (by decide) ?_ | refine go_ret ?_ | refine next_ret ?_ | refine inb_ret ?_))
    (apply ends_ok; (case h1 => simp; exact is_rfl); (case h2 => simp; exact is_rfl))
    simp
end Go.Abs
