/- Proved here: what functions of the program compute, over the evaluator. No condition but those that each theorem states. -/
import Derived.Test.YtefdoccoajhefaaDoorG13
namespace Go.Abs
open Go.Proofs
set_option maxRecDepth 100000
set_option linter.unusedSimpArgs false
set_option linter.unusedVariables false

section
variable {l : List (List UInt8 × Int)} {s : List UInt8} {n : Int} {k : Nat}
theorem PosE.lo' (h : PosE l s k) : ∀ p ∈ l.take k, Op.bytesLess p.1 s = true := fun p hp => by
  obtain ⟨i, hi, rfl⟩ := List.mem_iff_getElem.1 hp
  rw [List.getElem_take]
  have hi2 : i < k ∧ i < l.length := by simp at hi; omega
  exact h.lo i hi2.2 hi2.1
theorem PosE.hi' (h : PosE l s k) (hx : idxE s l = none) : ∀ p ∈ l.drop k, Op.bytesLess s p.1 = true := fun p hp => by
  have hne := idxE_none.1 hx p (List.mem_of_mem_drop hp)
  obtain ⟨i, hi, rfl⟩ := List.mem_iff_getElem.1 hp
  rw [List.getElem_drop] at hne ⊢
  have h1 := h.hi (k + i) (by simp at hi; omega) (by omega)
  have h2 := bl_le (l[k + i]'(by simp at hi; omega)).1 s
  rw [h1, Bool.false_or] at h2
  cases hb : Op.bytesLess s (l[k + i]'(by simp at hi; omega)).1 with
  | true => rfl
  | false =>
    rw [hb] at h2
    exact absurd (by simpa using h2) hne

def addL (l : List (List UInt8 × Int)) (s : List UInt8) (n : Int) (k : Nat) : List (List UInt8 × Int) := l.take k ++ (s, n) :: l.drop k
theorem addL_sort (hs : SortE l) (h : PosE l s k) (hx : idxE s l = none) : SortE (addL l s n k) := by
  unfold SortE addL
  rw [List.pairwise_append]
  refine ⟨List.Pairwise.sublist (List.take_sublist k l) hs, List.pairwise_cons.2 ⟨h.hi' hx, List.Pairwise.sublist (List.drop_sublist k l) hs⟩, fun a ha b hb => ?_⟩
  rcases List.mem_cons.1 hb with rfl | hb
  · exact h.lo' a ha
  · exact bl_trans (h.lo' a ha) (h.hi' hx b hb)
theorem addL_mem {p : List UInt8 × Int} : p ∈ addL l s n k ↔ p = (s, n) ∨ p ∈ l := by
  unfold addL
  rw [List.mem_append, List.mem_cons]
  have := List.take_append_drop k l
  constructor
  · rintro (h | h | h)
    · exact .inr (List.mem_of_mem_take h)
    · exact .inl h
    · exact .inr (List.mem_of_mem_drop h)
  · rintro (h | h)
    · exact .inr (.inl h)
    · rw [← this, List.mem_append] at h
      exact h.imp id .inr
theorem addL_valid (hv : validB [] l = true) (h : PosE l s k) (hx : idxE s l = none) (h1 : nameOk s = true) (h2 : inoOk n = true) : validB [] (addL l s n k) = true := by
  obtain ⟨_, hs, hok⟩ := validB_sort l [] hv
  have ok : ∀ p ∈ addL l s n k, entOk p = true := fun p hp => by
    rcases addL_mem.1 hp with rfl | hp
    · simp [entOk, h1, h2]
    · exact hok p hp
  exact sort_validB _ _ (fun p hp => bl_nil (entOk_ne (ok p hp))) (addL_sort hs h hx) ok
theorem addL_length (h : k ≤ l.length) : (addL l s n k).length = l.length + 1 := by simp [addL]; omega
theorem addL_idx (h : PosE l s k) : idxE s (addL l s n k) = some k := by
  have hk : (l.take k).length = k := by have := h.le; simp; omega
  refine idxE_at (by rw [addL_length h.le]; have := h.le; omega) ?_ fun p hp => ?_
  · simp only [addL]
    rw [List.getElem_append_right (by omega)]
    simp [hk]
  · simp only [addL] at hp
    rw [List.take_left' hk] at hp
    intro hps
    have := h.lo' p hp
    rw [hps, bl_irr] at this
    cases this
theorem addL_rem (h : k ≤ l.length) : (addL l s n k).take k ++ (addL l s n k).drop (k + 1) = l := by
  have hk : (l.take k).length = k := by simp; omega
  unfold addL
  rw [List.take_left' hk, show k + 1 = (l.take k).length + 1 by omega, List.drop_length_add_append]
  exact List.take_append_drop k l
theorem find_sort (hs : SortE l) {p : List UInt8 × Int} (hp : p ∈ l) : findV l p.1 = .tuple [.int .i64 p.2, .bool true] := by
  obtain ⟨j, hj, rfl⟩ := List.mem_iff_getElem.1 hp
  have : idxE l[j].1 l = some j := idxE_at hj rfl fun q hq hqs => by
    obtain ⟨i, hi, rfl⟩ := List.mem_iff_getElem.1 hq
    have hi2 : i < j := by simp at hi; omega
    rw [List.getElem_take] at hqs
    have := sort_lt hs hi2 hj
    rw [hqs, bl_irr] at this
    cases this
  unfold findV
  rw [this]
  simp [hj]
end

theorem L_DirUndoes (l : List (List UInt8 × Int)) (hl : l.length ≤ maxLen) (s : List UInt8) (z : Nat) (hz : z ≤ 255) : bodyW DC 7 [.sl (l.map entV), .str s, .int .u8 z] [] = some (.bool true, []) := by
  have v1 := few_eq l
  have v2 := good39_eq l hl
  have w0 : IntKind.i64.wrap (z : Int) = z := wrap_id (by omega) (by omega)
  by_cases h1 : Few l
  case neg =>
    rw [decide_eq_false h1] at v1
    generalize decide (Good39 l) = b2 at v2
    by_cases a3 : (40 : Int) < s.length
    · cases b2 <;>
      · (refine gives_iff ?_; refine go_func Tryd.f7 rfl rfl (by simp [Tryd.f7]) ?_; dsimp only [codeL, Tryd.f7, scL, sopsL, guardL, dstAt, loopKey])
        (repeat (first
    | (apply is_ok; (case hw => simp [v1, v2, a3, alive39_eq]); (case he => simp [v1, v2, a3, alive39_eq]; exact is_rfl))
    | (apply op_no; (case hw => simp [v1, v2, a3, alive39_eq]))
    | refine op_nil ?_ | refine next_normal ?_ | refine go_seq ?_ | refine go_region ?_ | refine go_skip ?_ | refine go_block ?_ | refine inb_normal ?_
    | (apply go_yes; (case hc => simp [v1, v2, a3, alive39_eq])) | (apply go_no; (case hc => simp [v1, v2, a3, alive39_eq]))
    | refine go_exit ?_ | refine next_exit ?_ | refine inb_here ?_ | refine inb_past (by decide) ?_ | refine go_ret ?_ | refine next_ret ?_ | refine inb_ret ?_))
        (apply ends_ok; (case h1 => simp; exact is_rfl); (case h2 => simp; exact is_rfl))
        exact ⟨rfl, rfl⟩
    · cases b2 <;>
      · (refine gives_iff ?_; refine go_func Tryd.f7 rfl rfl (by simp [Tryd.f7]) ?_; dsimp only [codeL, Tryd.f7, scL, sopsL, guardL, dstAt, loopKey])
        (repeat (first
    | (apply is_ok; (case hw => simp [v1, v2, a3, alive39_eq]); (case he => simp [v1, v2, a3, alive39_eq]; exact is_rfl))
    | (apply op_no; (case hw => simp [v1, v2, a3, alive39_eq]))
    | refine op_nil ?_ | refine next_normal ?_ | refine go_seq ?_ | refine go_region ?_ | refine go_skip ?_ | refine go_block ?_ | refine inb_normal ?_
    | (apply go_yes; (case hc => simp [v1, v2, a3, alive39_eq])) | (apply go_no; (case hc => simp [v1, v2, a3, alive39_eq]))
    | refine go_exit ?_ | refine next_exit ?_ | refine inb_here ?_ | refine inb_past (by decide) ?_ | refine go_ret ?_ | refine next_ret ?_ | refine inb_ret ?_))
        (apply ends_ok; (case h1 => simp; exact is_rfl); (case h2 => simp; exact is_rfl))
        exact ⟨rfl, rfl⟩
  by_cases h2 : Good39 l
  case neg =>
    rw [decide_eq_true h1] at v1
    rw [decide_eq_false h2] at v2
    by_cases a3 : (40 : Int) < s.length <;>
    · (refine gives_iff ?_; refine go_func Tryd.f7 rfl rfl (by simp [Tryd.f7]) ?_; dsimp only [codeL, Tryd.f7, scL, sopsL, guardL, dstAt, loopKey])
      (repeat (first
    | (apply is_ok; (case hw => simp [v1, v2, a3, alive39_eq]); (case he => simp [v1, v2, a3, alive39_eq]; exact is_rfl))
    | (apply op_no; (case hw => simp [v1, v2, a3, alive39_eq]))
    | refine op_nil ?_ | refine next_normal ?_ | refine go_seq ?_ | refine go_region ?_ | refine go_skip ?_ | refine go_block ?_ | refine inb_normal ?_
    | (apply go_yes; (case hc => simp [v1, v2, a3, alive39_eq])) | (apply go_no; (case hc => simp [v1, v2, a3, alive39_eq]))
    | refine go_exit ?_ | refine next_exit ?_ | refine inb_here ?_ | refine inb_past (by decide) ?_ | refine go_ret ?_ | refine next_ret ?_ | refine inb_ret ?_))
      (apply ends_ok; (case h1 => simp; exact is_rfl); (case h2 => simp; exact is_rfl))
      exact ⟨rfl, rfl⟩
  by_cases h3 : (40 : Int) < s.length
  case pos =>
    rw [decide_eq_true h1] at v1
    rw [decide_eq_true h2] at v2
    (refine gives_iff ?_; refine go_func Tryd.f7 rfl rfl (by simp [Tryd.f7]) ?_; dsimp only [codeL, Tryd.f7, scL, sopsL, guardL, dstAt, loopKey])
    (repeat (first
    | (apply is_ok; (case hw => simp [v1, v2, h3, alive39_eq]); (case he => simp [v1, v2, h3, alive39_eq]; exact is_rfl))
    | (apply op_no; (case hw => simp [v1, v2, h3, alive39_eq]))
    | refine op_nil ?_ | refine next_normal ?_ | refine go_seq ?_ | refine go_region ?_ | refine go_skip ?_ | refine go_block ?_ | refine inb_normal ?_
    | (apply go_yes; (case hc => simp [v1, v2, h3, alive39_eq])) | (apply go_no; (case hc => simp [v1, v2, h3, alive39_eq]))
    | refine go_exit ?_ | refine next_exit ?_ | refine inb_here ?_ | refine inb_past (by decide) ?_ | refine go_ret ?_ | refine next_ret ?_ | refine inb_ret ?_))
    (apply ends_ok; (case h1 => simp; exact is_rfl); (case h2 => simp; exact is_rfl))
    exact ⟨rfl, rfl⟩
  rw [decide_eq_true h1] at v1
  rw [decide_eq_true h2] at v2
  have hl70 := h1.1
  have hl64 := h2.1
  have hlm : l.length ≤ 1000000 := by omega
  obtain ⟨_, hs, hok⟩ := validB_sort l [] h2.2
  obtain ⟨k, hk, _⟩ := place_eq l hlm hs s
  have v3 := Add_eq l hlm hs s z k hk
  by_cases hE : addE l s z = 0
  case neg =>
    rw [addR_err rfl hE] at v3
    have v4 := Find_eq l hl s
    by_cases h14 : addE l s z = 14
    · have hx : (idxE s l).isSome = true := by
        unfold addE at h14
        split at h14
        · cases h14
        split at h14
        · cases h14
        split at h14
        · assumption
        split at h14 <;> cases h14
      obtain ⟨j, hj⟩ := Option.isSome_iff_exists.1 hx
      rw [findV, hj] at v4
      simp only at v4
      rw [h14] at v3
      (refine gives_iff ?_; refine go_func Tryd.f7 rfl rfl (by simp [Tryd.f7]) ?_; dsimp only [codeL, Tryd.f7, scL, sopsL, guardL, dstAt, loopKey])
      (repeat (first
    | (apply is_ok; (case hw => simp [v1, v2, h3, w0, v3, v4, alive39_eq]); (case he => simp [v1, v2, h3, w0, v3, v4, alive39_eq]; exact is_rfl))
    | (apply op_no; (case hw => simp [v1, v2, h3, w0, v3, v4, alive39_eq]))
    | refine op_nil ?_ | refine next_normal ?_ | refine go_seq ?_ | refine go_region ?_ | refine go_skip ?_ | refine go_block ?_ | refine inb_normal ?_
    | (apply go_yes; (case hc => simp [v1, v2, h3, w0, v3, v4, alive39_eq])) | (apply go_no; (case hc => simp [v1, v2, h3, w0, v3, v4, alive39_eq]))
    | refine go_exit ?_ | refine next_exit ?_ | refine inb_here ?_ | refine inb_past (by decide) ?_ | refine go_ret ?_ | refine next_ret ?_ | refine inb_ret ?_))
      (apply ends_ok; (case h1 => simp; exact is_rfl); (case h2 => simp; exact is_rfl))
      exact ⟨rfl, rfl⟩
    · obtain ⟨a, b, hf⟩ := findV_shape l s
      rw [hf] at v4
      generalize addE l s z = e at v3 hE h14
      (refine gives_iff ?_; refine go_func Tryd.f7 rfl rfl (by simp [Tryd.f7]) ?_; dsimp only [codeL, Tryd.f7, scL, sopsL, guardL, dstAt, loopKey])
      (repeat (first
    | (apply is_ok; (case hw => simp [v1, v2, h3, w0, v3, v4, hE, h14, alive39_eq]); (case he => simp [v1, v2, h3, w0, v3, v4, hE, h14, alive39_eq]; exact is_rfl))
    | (apply op_no; (case hw => simp [v1, v2, h3, w0, v3, v4, hE, h14, alive39_eq]))
    | refine op_nil ?_ | refine next_normal ?_ | refine go_seq ?_ | refine go_region ?_ | refine go_skip ?_ | refine go_block ?_ | refine inb_normal ?_
    | (apply go_yes; (case hc => simp [v1, v2, h3, w0, v3, v4, hE, h14, alive39_eq])) | (apply go_no; (case hc => simp [v1, v2, h3, w0, v3, v4, hE, h14, alive39_eq]))
    | refine go_exit ?_ | refine next_exit ?_ | refine inb_here ?_ | refine inb_past (by decide) ?_ | refine go_ret ?_ | refine next_ret ?_ | refine inb_ret ?_))
      (apply ends_ok; (case h1 => simp; exact is_rfl); (case h2 => simp; exact is_rfl))
      exact ⟨rfl, rfl⟩
  rw [addR_ok hE] at v3
  obtain ⟨n1, n2, n3, n4⟩ : nameOk s = true ∧ inoOk z = true ∧ idxE s l = none ∧ l.length < 64 := by
    unfold addE at hE
    split at hE
    · cases hE
    split at hE
    · cases hE
    split at hE
    · cases hE
    split at hE
    · cases hE
    rename_i b1 b2 b3 b4
    exact ⟨by simpa using b1, by simpa using b2, by simpa using b3, by omega⟩
  have hX := addL_length (s := s) (n := z) hk.le
  have hXs := addL_sort (n := z) hs hk n3
  have hXv := addL_valid (n := z) h2.2 hk n3 n1 n2
  have hXi := addL_idx (n := z) hk
  have hXr := addL_rem (s := s) (n := z) hk.le
  have v4 := Find_eq (addL l s z k) (by unfold maxLen; omega) s
  rw [show s = ((s, (z : Int)) : List UInt8 × Int).1 from rfl, find_sort hXs (addL_mem.2 (.inl rfl))] at v4
  have v5 := Bytes_eq (addL l s z k) (by omega)
  rw [if_neg (by omega), if_pos hXv] at v5
  have v6 := Rem_eq (addL l s z k) (by omega) hXs s
  rw [remD, hXi] at v6
  simp only at v6
  rw [hXr, hX] at v6
  have v7 := SameE_refl l hl
  have v8 : ∀ i (h : i < l.length), bodyW DC 19 [.sl ((addL l s z k).map entV), .str l[i].1] [] = some (.tuple [.int .i64 l[i].2, .bool true], []) := fun i h => by
    rw [Find_eq (addL l s z k) (by unfold maxLen; omega) l[i].1, find_sort hXs (addL_mem.2 (.inr (List.getElem_mem h)))]
  have e1 : (l.take k ++ (s, (z : Int)) :: l.drop k) = addL l s z k := rfl
  rw [e1, ← hX] at v3
  generalize addL l s z k = X at *
  generalize encL X = BB at *
  have tk : List.take l.length (l.map entV ++ [.agg [.str [], .int .i64 0]]) = l.map entV := List.take_left' (by simp)
  (refine gives_iff ?_; refine go_func Tryd.f7 rfl rfl (by simp [Tryd.f7]) ?_; dsimp only [codeL, Tryd.f7, scL, sopsL, guardL, dstAt, loopKey])
  (repeat (first
    | (apply is_ok; (case hw => simp [v1, v2, h3, w0, v3, v4, v5, v6, v7, tk]); (case he => simp [v1, v2, h3, w0, v3, v4, v5, v6, v7, tk]; exact is_rfl))
    | (apply op_no; (case hw => simp [v1, v2, h3, w0, v3, v4, v5, v6, v7, tk]))
    | refine op_nil ?_ | refine next_normal ?_ | refine go_seq ?_ | refine go_region ?_ | refine go_skip ?_ | refine go_block ?_ | refine inb_normal ?_
    | (apply go_yes; (case hc => simp [v1, v2, h3, w0, v3, v4, v5, v6, v7, tk])) | (apply go_no; (case hc => simp [v1, v2, h3, w0, v3, v4, v5, v6, v7, tk]))
    | refine go_exit ?_ | refine next_exit ?_ | refine inb_here ?_ | refine inb_past (by decide) ?_ | refine go_ret ?_ | refine next_ret ?_ | refine inb_ret ?_))
  refine go_count l.length (fun i => [(0, .sl (l.map entV)), (7, .own 0 X.length 0 X.length), (17, .int .i64 i)]) (fun _ => [.dat true 2 (X.map entV)]) (fun _ => True) (by simp) trivial fun i hi _ => ?_
  by_cases hlt : i < l.length
  · have g1 : (i : Int) < l.length := by omega
    have g2 : l[i]? = some l[i] := List.getElem?_eq_getElem hlt
    have w1 : IntKind.i64.wrap ((i : Int) + 1) = (i : Int) + 1 := wrap_id (by omega) (by omega)
    have v9 := v8 i hlt
    (repeat (first
    | (apply is_ok; (case hw => simp [g1, g2, hlt, entV, v9, w1]); (case he => simp [g1, g2, hlt, entV, v9, w1]; exact is_rfl))
    | (apply op_no; (case hw => simp [g1, g2, hlt, entV, v9, w1]))
    | refine op_nil ?_ | refine next_normal ?_ | refine go_seq ?_ | refine go_region ?_ | refine go_skip ?_ | refine go_block ?_ | refine inb_normal ?_
    | (apply go_yes; (case hc => simp [g1, g2, hlt, entV, v9, w1])) | (apply go_no; (case hc => simp [g1, g2, hlt, entV, v9, w1]))
    | refine go_exit ?_ | refine next_exit ?_ | refine inb_here ?_ | refine inb_past (by decide) ?_ | refine go_ret ?_ | refine next_ret ?_ | refine inb_ret ?_))
    exact ⟨hlt, by simp [w1, entV], trivial⟩
  · have g1 : ¬ (i : Int) < l.length := by omega
    (repeat (first
    | (apply is_ok; (case hw => simp [g1, alive39_eq]); (case he => simp [g1, alive39_eq]; exact is_rfl))
    | (apply op_no; (case hw => simp [g1, alive39_eq]))
    | refine op_nil ?_ | refine next_normal ?_ | refine go_seq ?_ | refine go_region ?_ | refine go_skip ?_ | refine go_block ?_ | refine inb_normal ?_
    | (apply go_yes; (case hc => simp [g1, alive39_eq])) | (apply go_no; (case hc => simp [g1, alive39_eq]))
    | refine go_exit ?_ | refine next_exit ?_ | refine inb_here ?_ | refine inb_past (by decide) ?_ | refine go_ret ?_ | refine next_ret ?_ | refine inb_ret ?_))
    (apply ends_ok; (case h1 => simp; exact is_rfl); (case h2 => simp; exact is_rfl))
    exact ⟨rfl, rfl⟩
end Go.Abs
