/- Proved here: what functions of the program compute, over the evaluator. No condition but those that each theorem states. -/
import Derived.Test.YtpffmpllnpmkbaaDoorE28
namespace Go.Abs
open Go.Proofs
set_option maxRecDepth 100000
set_option linter.unusedSimpArgs false
set_option linter.unusedVariables false

theorem eqw_wr (a b : Int × List UInt8) : binV Tryd.prog .eql 40 (wrV a) (wrV b) = some (.bool (decide (a = b))) ∧ binV Tryd.prog .neq 40 (wrV a) (wrV b) = some (.bool (!decide (a = b))) := by
  have h := (binV_agg (P := Tryd.prog) (t := 40) (d := 10000) rfl (by kernel_rfl) (by kernel_rfl) rfl rfl (eqL_wr a.1 b.1 a.2 b.2))
  have e : (decide (a.1 = b.1) && decide (a.2 = b.2)) = decide (a = b) := by
    rw [Bool.eq_iff_iff]
    simp [Prod.ext_iff]
  rw [e] at h
  exact h
theorem SameW_refl (l : List (Int × List UInt8)) (hl : l.length ≤ 1000000) : bodyW DC 11 [.sl (l.map wrV), .sl (l.map wrV)] [] = some (.bool true, []) := by
  (refine gives_iff ?_; refine go_func Tryd.f11 rfl rfl (by simp [Tryd.f11]) ?_; dsimp only [codeL, Tryd.f11, scL, sopsL, guardL, dstAt, loopKey])
  (repeat (first
    | (apply is_ok; (case hw => simp); (case he => simp; exact is_rfl))
    | (apply op_no; (case hw => simp))
    | refine op_nil ?_ | refine next_normal ?_ | refine go_seq ?_ | refine go_region ?_ | refine go_skip ?_ | refine go_block ?_ | refine inb_normal ?_
    | (apply go_yes; (case hc => simp)) | (apply go_no; (case hc => simp))
    | refine go_exit ?_ | refine next_exit ?_ | refine inb_here ?_ | refine inb_past (by decide) ?_ | refine go_ret ?_ | refine next_ret ?_ | refine inb_ret ?_))
  refine go_count l.length (fun i => [(0, .sl (l.map wrV)), (1, .sl (l.map wrV)), (5, .int .i64 i)]) (fun _ => []) (fun _ => True) (by simp) trivial fun i hi _ => ?_
  by_cases hlt : i < l.length
  · have hw : IntKind.i64.wrap ((i : Int) + 1) = (i : Int) + 1 := wrap_id (by omega) (by omega)
    have gx : l[i]? = some (l[i]'hlt) := List.getElem?_eq_getElem hlt
    generalize hx0 : l[i]'hlt = x at gx
    have he := (eqw_wr x x).2
    simp only [decide_true, Bool.not_true] at he
    (repeat (first
    | (apply is_ok; (case hw => simp [-binV, hlt, gx, hx0, he]); (case he => simp [-binV, hlt, gx, hx0, he]; exact is_rfl))
    | (apply op_no; (case hw => simp [-binV, hlt, gx, hx0, he]))
    | refine op_nil ?_ | refine next_normal ?_ | refine go_seq ?_ | refine go_region ?_ | refine go_skip ?_ | refine go_block ?_ | refine inb_normal ?_
    | (apply go_yes; (case hc => simp [-binV, hlt, gx, hx0, he])) | (apply go_no; (case hc => simp [-binV, hlt, gx, hx0, he]))
    | refine go_exit ?_ | refine next_exit ?_ | refine inb_here ?_ | refine inb_past (by decide) ?_ | refine go_ret ?_ | refine next_ret ?_ | refine inb_ret ?_))
    exact ⟨hlt, by simp [hw], trivial⟩
  · (repeat (first
    | (apply is_ok; (case hw => simp [hlt]); (case he => simp [hlt]; exact is_rfl))
    | (apply op_no; (case hw => simp [hlt]))
    | refine op_nil ?_ | refine next_normal ?_ | refine go_seq ?_ | refine go_region ?_ | refine go_skip ?_ | refine go_block ?_ | refine inb_normal ?_
    | (apply go_yes; (case hc => simp [hlt])) | (apply go_no; (case hc => simp [hlt]))
    | refine go_exit ?_ | refine next_exit ?_ | refine inb_here ?_ | refine inb_past (by decide) ?_ | refine go_ret ?_ | refine next_ret ?_ | refine inb_ret ?_))
    (apply ends_ok; (case h1 => simp; exact is_rfl); (case h2 => simp; exact is_rfl))
    simp

def SmallV (S : List (List UInt8)) (B : List Int) : Prop := S.length ≤ 260 ∧ B.length ≤ 60 ∧ ∀ s ∈ S, s.length ≤ 200
instance (S : List (List UInt8)) (B : List Int) : Decidable (SmallV S B) := by unfold SmallV; infer_instance
theorem small37_eq (S : List (List UInt8)) (B : List Int) : bodyW DC 7 [drv S B] [] = some (.bool (decide (SmallV S B)), []) := by
  unfold SmallV
  (refine gives_iff ?_; refine go_func Tryd.f7 rfl rfl (by simp [Tryd.f7]) ?_; dsimp only [codeL, Tryd.f7, scL, sopsL, guardL, dstAt, loopKey])
  by_cases h1 : S.length ≤ 260
  case neg =>
    have h1' : (260 : Int) < S.length := by omega
    (repeat (first
    | (apply is_ok; (case hw => simp [h1, h1']); (case he => simp [h1, h1']; exact is_rfl))
    | (apply op_no; (case hw => simp [h1, h1']))
    | refine op_nil ?_ | refine next_normal ?_ | refine go_seq ?_ | refine go_region ?_ | refine go_skip ?_ | refine go_block ?_ | refine inb_normal ?_
    | (apply go_yes; (case hc => simp [h1, h1'])) | (apply go_no; (case hc => simp [h1, h1']))
    | refine go_exit ?_ | refine next_exit ?_ | refine inb_here ?_ | refine inb_past (by decide) ?_ | refine go_ret ?_ | refine next_ret ?_ | refine inb_ret ?_))
    (apply ends_ok; (case h1 => simp; exact is_rfl); (case h2 => simp; exact is_rfl))
    simp [h1]
  have h1' : ¬ (260 : Int) < S.length := by omega
  by_cases h2 : B.length ≤ 60
  case neg =>
    have h2' : (60 : Int) < B.length := by omega
    (repeat (first
    | (apply is_ok; (case hw => simp [h1, h1', h2, h2']); (case he => simp [h1, h1', h2, h2']; exact is_rfl))
    | (apply op_no; (case hw => simp [h1, h1', h2, h2']))
    | refine op_nil ?_ | refine next_normal ?_ | refine go_seq ?_ | refine go_region ?_ | refine go_skip ?_ | refine go_block ?_ | refine inb_normal ?_
    | (apply go_yes; (case hc => simp [h1, h1', h2, h2'])) | (apply go_no; (case hc => simp [h1, h1', h2, h2']))
    | refine go_exit ?_ | refine next_exit ?_ | refine inb_here ?_ | refine inb_past (by decide) ?_ | refine go_ret ?_ | refine next_ret ?_ | refine inb_ret ?_))
    (apply ends_ok; (case h1 => simp; exact is_rfl); (case h2 => simp; exact is_rfl))
    simp [h2]
  have h2' : ¬ (60 : Int) < B.length := by omega
  (repeat (first
    | (apply is_ok; (case hw => simp [h1, h1', h2, h2']); (case he => simp [h1, h1', h2, h2']; exact is_rfl))
    | (apply op_no; (case hw => simp [h1, h1', h2, h2']))
    | refine op_nil ?_ | refine next_normal ?_ | refine go_seq ?_ | refine go_region ?_ | refine go_skip ?_ | refine go_block ?_ | refine inb_normal ?_
    | (apply go_yes; (case hc => simp [h1, h1', h2, h2'])) | (apply go_no; (case hc => simp [h1, h1', h2, h2']))
    | refine go_exit ?_ | refine next_exit ?_ | refine inb_here ?_ | refine inb_past (by decide) ?_ | refine go_ret ?_ | refine next_ret ?_ | refine inb_ret ?_))
  refine go_count S.length (fun i => [(16, .sl (strs S)), (17, .int .i64 S.length), (18, .int .i64 i)]) (fun _ => []) (fun i => ∀ j (hj : j < S.length), j < i → (S[j]).length ≤ 200) (by simp) (by simp) fun i hi hI => ?_
  by_cases hlt : i < S.length
  · have hw : IntKind.i64.wrap ((i : Int) + 1) = (i : Int) + 1 := wrap_id (by omega) (by omega)
    have gx : S[i]? = some (S[i]'hlt) := List.getElem?_eq_getElem hlt
    by_cases h3 : (S[i]).length ≤ 200
    · have h3' : ¬ (200 : Int) < (S[i]).length := by omega
      (repeat (first
    | (apply is_ok; (case hw => simp [hlt, gx, h3, h3']); (case he => simp [hlt, gx, h3, h3']; exact is_rfl))
    | (apply op_no; (case hw => simp [hlt, gx, h3, h3']))
    | refine op_nil ?_ | refine next_normal ?_ | refine go_seq ?_ | refine go_region ?_ | refine go_skip ?_ | refine go_block ?_ | refine inb_normal ?_
    | (apply go_yes; (case hc => simp [hlt, gx, h3, h3'])) | (apply go_no; (case hc => simp [hlt, gx, h3, h3']))
    | refine go_exit ?_ | refine next_exit ?_ | refine inb_here ?_ | refine inb_past (by decide) ?_ | refine go_ret ?_ | refine next_ret ?_ | refine inb_ret ?_))
      exact ⟨hlt, by simp [hw], fun j hj hji => by
        by_cases hje : j = i
        · subst hje; exact h3
        · exact hI j hj (by omega)⟩
    · have h3' : (200 : Int) < (S[i]).length := by omega
      (repeat (first
    | (apply is_ok; (case hw => simp [hlt, gx, h3, h3']); (case he => simp [hlt, gx, h3, h3']; exact is_rfl))
    | (apply op_no; (case hw => simp [hlt, gx, h3, h3']))
    | refine op_nil ?_ | refine next_normal ?_ | refine go_seq ?_ | refine go_region ?_ | refine go_skip ?_ | refine go_block ?_ | refine inb_normal ?_
    | (apply go_yes; (case hc => simp [hlt, gx, h3, h3'])) | (apply go_no; (case hc => simp [hlt, gx, h3, h3']))
    | refine go_exit ?_ | refine next_exit ?_ | refine inb_here ?_ | refine inb_past (by decide) ?_ | refine go_ret ?_ | refine next_ret ?_ | refine inb_ret ?_))
      (apply ends_ok; (case h1 => simp; exact is_rfl); (case h2 => simp; exact is_rfl))
      have : ¬ ∀ s ∈ S, s.length ≤ 200 := fun h => h3 (h _ (List.getElem_mem hlt))
      simp [this]
  · (repeat (first
    | (apply is_ok; (case hw => simp [hlt]); (case he => simp [hlt]; exact is_rfl))
    | (apply op_no; (case hw => simp [hlt]))
    | refine op_nil ?_ | refine next_normal ?_ | refine go_seq ?_ | refine go_region ?_ | refine go_skip ?_ | refine go_block ?_ | refine inb_normal ?_
    | (apply go_yes; (case hc => simp [hlt])) | (apply go_no; (case hc => simp [hlt]))
    | refine go_exit ?_ | refine next_exit ?_ | refine inb_here ?_ | refine inb_past (by decide) ?_ | refine go_ret ?_ | refine next_ret ?_ | refine inb_ret ?_))
    (apply ends_ok; (case h1 => simp; exact is_rfl); (case h2 => simp; exact is_rfl))
    have : ∀ s ∈ S, s.length ≤ 200 := fun s hs => by
      obtain ⟨j, hj, rfl⟩ := List.mem_iff_getElem.1 hs
      exact hI j hj (by omega)
    simp [h1, h2]
    exact this

def FewP (l : List (Int × List UInt8)) : Prop := (∀ w ∈ l, w.2.length ≤ 200) ∧ l.length ≤ 60
instance (l : List (Int × List UInt8)) : Decidable (FewP l) := by unfold FewP; infer_instance
theorem few37_eq (l : List (Int × List UInt8)) (hl : l.length ≤ maxLen) : bodyW DC 12 [.sl (l.map wrV)] [] = some (.bool (decide (FewP l)), []) := by
  unfold maxLen at hl
  unfold FewP
  (refine gives_iff ?_; refine go_func Tryd.f12 rfl rfl (by simp [Tryd.f12]) ?_; dsimp only [codeL, Tryd.f12, scL, sopsL, guardL, dstAt, loopKey])
  (repeat (first
    | (apply is_ok; (case hw => simp); (case he => simp; exact is_rfl))
    | (apply op_no; (case hw => simp))
    | refine op_nil ?_ | refine next_normal ?_ | refine go_seq ?_ | refine go_region ?_ | refine go_skip ?_ | refine go_block ?_ | refine inb_normal ?_
    | (apply go_yes; (case hc => simp)) | (apply go_no; (case hc => simp))
    | refine go_exit ?_ | refine next_exit ?_ | refine inb_here ?_ | refine inb_past (by decide) ?_ | refine go_ret ?_ | refine next_ret ?_ | refine inb_ret ?_))
  refine go_count l.length (fun i => [(0, .sl (l.map wrV)), (5, .sl (l.map wrV)), (6, .int .i64 l.length), (7, .int .i64 i)]) (fun _ => []) (fun i => ∀ j (hj : j < l.length), j < i → (l[j]).2.length ≤ 200) (by simp) (by simp) fun i hi hI => ?_
  by_cases hlt : i < l.length
  · have hw : IntKind.i64.wrap ((i : Int) + 1) = (i : Int) + 1 := wrap_id (by omega) (by omega)
    have gx : l[i]? = some (l[i]'hlt) := List.getElem?_eq_getElem hlt
    by_cases h3 : (l[i]).2.length ≤ 200
    · have h3' : ¬ (200 : Int) < (l[i]).2.length := by omega
      (repeat (first
    | (apply is_ok; (case hw => simp [hlt, gx, h3, h3']); (case he => simp [hlt, gx, h3, h3']; exact is_rfl))
    | (apply op_no; (case hw => simp [hlt, gx, h3, h3']))
    | refine op_nil ?_ | refine next_normal ?_ | refine go_seq ?_ | refine go_region ?_ | refine go_skip ?_ | refine go_block ?_ | refine inb_normal ?_
    | (apply go_yes; (case hc => simp [hlt, gx, h3, h3'])) | (apply go_no; (case hc => simp [hlt, gx, h3, h3']))
    | refine go_exit ?_ | refine next_exit ?_ | refine inb_here ?_ | refine inb_past (by decide) ?_ | refine go_ret ?_ | refine next_ret ?_ | refine inb_ret ?_))
      exact ⟨hlt, by simp [hw], fun j hj hji => by
        by_cases hje : j = i
        · subst hje; exact h3
        · exact hI j hj (by omega)⟩
    · have h3' : (200 : Int) < (l[i]).2.length := by omega
      (repeat (first
    | (apply is_ok; (case hw => simp [hlt, gx, h3, h3']); (case he => simp [hlt, gx, h3, h3']; exact is_rfl))
    | (apply op_no; (case hw => simp [hlt, gx, h3, h3']))
    | refine op_nil ?_ | refine next_normal ?_ | refine go_seq ?_ | refine go_region ?_ | refine go_skip ?_ | refine go_block ?_ | refine inb_normal ?_
    | (apply go_yes; (case hc => simp [hlt, gx, h3, h3'])) | (apply go_no; (case hc => simp [hlt, gx, h3, h3']))
    | refine go_exit ?_ | refine next_exit ?_ | refine inb_here ?_ | refine inb_past (by decide) ?_ | refine go_ret ?_ | refine next_ret ?_ | refine inb_ret ?_))
      (apply ends_ok; (case h1 => simp; exact is_rfl); (case h2 => simp; exact is_rfl))
      have : ¬ ∀ w ∈ l, w.2.length ≤ 200 := fun h => h3 (h _ (List.getElem_mem hlt))
      have e : decide (FewP l) = false := decide_eq_false (fun h => this h.1)
      unfold FewP at e
      simp [e]
  · (repeat (first
    | (apply is_ok; (case hw => simp [hlt]); (case he => simp [hlt]; exact is_rfl))
    | (apply op_no; (case hw => simp [hlt]))
    | refine op_nil ?_ | refine next_normal ?_ | refine go_seq ?_ | refine go_region ?_ | refine go_skip ?_ | refine go_block ?_ | refine inb_normal ?_
    | (apply go_yes; (case hc => simp [hlt])) | (apply go_no; (case hc => simp [hlt]))
    | refine go_exit ?_ | refine next_exit ?_ | refine inb_here ?_ | refine inb_past (by decide) ?_ | refine go_ret ?_ | refine next_ret ?_ | refine inb_ret ?_))
    (apply ends_ok; (case h1 => simp; exact is_rfl); (case h2 => simp; exact is_rfl))
    have : ∀ w ∈ l, w.2.length ≤ 200 := fun s hs => by
      obtain ⟨j, hj, rfl⟩ := List.mem_iff_getElem.1 hs
      exact hI j hj (by omega)
    have e : decide ((∀ w ∈ l, w.2.length ≤ 200) ∧ l.length ≤ 60) = decide ((l.length : Int) ≤ 60) := by
      rw [Bool.eq_iff_iff, decide_eq_true_iff, decide_eq_true_iff]
      exact ⟨fun h => by omega, fun h => ⟨this, by omega⟩⟩
    rw [e]
    simp

set_option maxRecDepth 100000 in
theorem alive37_eq : bodyW DC 8 [] [] = some (.bool true, []) := bodyW_iff.2 ⟨3000, by kernel_rfl⟩

theorem recS_length (S : List (List UInt8)) (B : List Int) : (recS S B).1.length ≤ 17 := by
  unfold recS
  have h := logS_length (S.length - swapW S) (S.getD 1 [])
  generalize logS (S.length - swapW S) (S.getD 1 []) = p at h ⊢
  split
  · split
    · simp
    · split
      · split
        · simp
        · split
          · rw [List.length_append, recW_length, List.length_singleton]; omega
          · simp
      · simp
  · simp
theorem VolumeRecovers_eq (S : List (List UInt8)) (B : List Int) (hB : B.length ≤ maxLen) : bodyW DC 3 [drv S B] [] = some (.bool true, []) := by
  have hM := small37_eq S B
  have hA := alive37_eq
  by_cases hs : SmallV S B
  case neg =>
    (refine gives_iff ?_; refine go_func Tryd.f3 rfl rfl (by simp [Tryd.f3]) ?_; dsimp only [codeL, Tryd.f3, scL, sopsL, guardL, dstAt, loopKey])
    (repeat (first
    | (apply is_ok; (case hw => simp [hM, hs, hA]); (case he => simp [hM, hs, hA]; exact is_rfl))
    | (apply op_no; (case hw => simp [hM, hs, hA]))
    | refine op_nil ?_ | refine next_normal ?_ | refine go_seq ?_ | refine go_region ?_ | refine go_skip ?_ | refine go_block ?_ | refine inb_normal ?_
    | (apply go_yes; (case hc => simp [hM, hs, hA])) | (apply go_no; (case hc => simp [hM, hs, hA]))
    | refine go_exit ?_ | refine next_exit ?_ | refine inb_here ?_ | refine inb_past (by decide) ?_ | refine go_ret ?_ | refine next_ret ?_ | refine inb_ret ?_))
    (apply ends_ok; (case h1 => simp; exact is_rfl); (case h2 => simp; exact is_rfl))
    simp
  have hR := Recover_eq S B hB
  have hR' := RecoverR_eq S B hB
  have hl := recS_length S B
  have hW := SameW_refl (recS S B).1 (by omega)
  generalize recS S B = p at hR hR' hW
  (refine gives_iff ?_; refine go_func Tryd.f3 rfl rfl (by simp [Tryd.f3]) ?_; dsimp only [codeL, Tryd.f3, scL, sopsL, guardL, dstAt, loopKey])
  (repeat (first
    | (apply is_ok; (case hw => simp [hM, hs, hA, hR, hR', hW]); (case he => simp [hM, hs, hA, hR, hR', hW]; exact is_rfl))
    | (apply op_no; (case hw => simp [hM, hs, hA, hR, hR', hW]))
    | refine op_nil ?_ | refine next_normal ?_ | refine go_seq ?_ | refine go_region ?_ | refine go_skip ?_ | refine go_block ?_ | refine inb_normal ?_
    | (apply go_yes; (case hc => simp [hM, hs, hA, hR, hR', hW])) | (apply go_no; (case hc => simp [hM, hs, hA, hR, hR', hW]))
    | refine go_exit ?_ | refine next_exit ?_ | refine inb_here ?_ | refine inb_past (by decide) ?_ | refine go_ret ?_ | refine next_ret ?_ | refine inb_ret ?_))
  (apply ends_ok; (case h1 => simp; exact is_rfl); (case h2 => simp; exact is_rfl))
  simp
end Go.Abs
