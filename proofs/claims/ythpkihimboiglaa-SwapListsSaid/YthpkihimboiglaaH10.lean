/- Proved here: what functions of the program compute, over the evaluator. No condition but those that each theorem states. -/
import Derived.Test.YthpkihimboiglaaH9
import Derived.Test.YthpkihimboiglaaH3
namespace Go.Abs
open Go.Proofs
set_option maxRecDepth 100000
set_option linter.unusedSimpArgs false
set_option linter.unusedVariables false

theorem ap1_eq (y x w : Ex) (hy : BigP y) (hx : BigP x) : bodyW DC 65 [.agg [.int .i64 y.1, .int .i64 y.2], .ptr 1 1 0 0] [.box (.agg [.int .i64 w.1, .int .i64 w.2]), .box (.agg [.int .i64 x.1, .int .i64 x.2])] =
    some (.bool (decide (meetP x y)), [.box (.agg [.int .i64 w.1, .int .i64 w.2]), .box (.agg [.int .i64 x.1, .int .i64 x.2])]) := by
  have v1 := meet_eq x y hx hy
  (refine gives_iff ?_; refine go_func Try.f65 rfl rfl (by simp [Try.f65]) ?_; dsimp only [codeL, Try.f65, scL, sopsL, guardL, dstAt, loopKey])
  (repeat (first
    | (apply is_ok; (case hw => simp [v1]); (case he => simp [v1]; exact is_rfl))
    | (apply op_no; (case hw => simp [v1]))
    | refine op_nil ?_ | refine next_normal ?_ | refine go_seq ?_ | refine go_region ?_ | refine go_skip ?_ | refine go_block ?_ | refine inb_normal ?_
    | (apply go_yes; (case hc => simp [v1])) | (apply go_no; (case hc => simp [v1]))
    | refine go_exit ?_ | refine next_exit ?_ | refine inb_here ?_ | refine inb_past (by decide) ?_ | refine go_ret ?_ | refine next_ret ?_ | refine inb_ret ?_))
  (apply ends_ok; (case h1 => simp; exact is_rfl); (case h2 => simp; exact is_rfl))
  simp

theorem apIdx_eq (l : List Ex) (hl : l.length ≤ 1000) (hb : ∀ y ∈ l, BigP y) (x w : Ex) (hx : BigP x) : bodyW DC 59 [.sl (l.map exV), .fn 65 [.ptr 1 1 0 0]] [.box (.agg [.int .i64 w.1, .int .i64 w.2]), .box (.agg [.int .i64 x.1, .int .i64 x.2])] =
    some (.int .i64 (idxI x l), [.box (.agg [.int .i64 w.1, .int .i64 w.2]), .box (.agg [.int .i64 x.1, .int .i64 x.2])]) := by
  generalize hR : idxI x l = R
  unfold idxI at hR
  (refine gives_iff ?_; refine go_func Try.f59 rfl rfl (by simp [Try.f59]) ?_; dsimp only [codeL, Try.f59, scL, sopsL, guardL, dstAt, loopKey])
  (repeat (first
    | (apply is_ok; (case hw => simp); (case he => simp; exact is_rfl))
    | (apply op_no; (case hw => simp))
    | refine op_nil ?_ | refine next_normal ?_ | refine go_seq ?_ | refine go_region ?_ | refine go_skip ?_ | refine go_block ?_ | refine inb_normal ?_
    | (apply go_yes; (case hc => simp)) | (apply go_no; (case hc => simp))
    | refine go_exit ?_ | refine next_exit ?_ | refine inb_here ?_ | refine inb_past (by decide) ?_ | refine go_ret ?_ | refine next_ret ?_ | refine inb_ret ?_))
  refine go_count l.length (fun i => [(0, .sl (l.map exV)), (1, .fn 65 [.ptr 1 1 0 0]), (7, .int .i64 l.length), (8, .int .i64 i)]) (fun _ => [.box (.agg [.int .i64 w.1, .int .i64 w.2]), .box (.agg [.int .i64 x.1, .int .i64 x.2])]) (fun i => ∀ j (h : j < l.length), j < i → ¬ meetP x l[j]) (by simp) (fun j _ h => absurd h (Nat.not_lt_zero j)) fun i hi hI => ?_
  by_cases hlt : i < l.length
  · have g1 : (i : Int) < l.length := by omega
    have g2 : l[i]? = some l[i] := List.getElem?_eq_getElem hlt
    have w1 : IntKind.i64.wrap ((i : Int) + 1) = (i : Int) + 1 := wrap_id (by omega) (by omega)
    have v1 := ap1_eq l[i] x w (hb _ (List.getElem_mem hlt)) hx
    by_cases hm : meetP x l[i]
    · rw [decide_eq_true hm] at v1
      have hf : l.findIdx? (fun y => decide (meetP x y)) = some i := by
        rw [List.findIdx?_eq_some_iff_getElem]
        exact ⟨hlt, by simpa using hm, fun j hj => by simpa using hI j (by omega) hj⟩
      rw [hf] at hR
      simp only at hR
      subst hR
      (repeat (first
    | (apply is_ok; (case hw => simp [g1, g2, hlt, v1, exV]); (case he => simp [g1, g2, hlt, v1, exV]; exact is_rfl))
    | (apply op_no; (case hw => simp [g1, g2, hlt, v1, exV]))
    | refine op_nil ?_ | refine next_normal ?_ | refine go_seq ?_ | refine go_region ?_ | refine go_skip ?_ | refine go_block ?_ | refine inb_normal ?_
    | (apply go_yes; (case hc => simp [g1, g2, hlt, v1, exV])) | (apply go_no; (case hc => simp [g1, g2, hlt, v1, exV]))
    | refine go_exit ?_ | refine next_exit ?_ | refine inb_here ?_ | refine inb_past (by decide) ?_ | refine go_ret ?_ | refine next_ret ?_ | refine inb_ret ?_))
      (apply ends_ok; (case h1 => simp; exact is_rfl); (case h2 => simp; exact is_rfl))
      simp
    · rw [decide_eq_false hm] at v1
      (repeat (first
    | (apply is_ok; (case hw => simp [g1, g2, hlt, v1, w1, exV]); (case he => simp [g1, g2, hlt, v1, w1, exV]; exact is_rfl))
    | (apply op_no; (case hw => simp [g1, g2, hlt, v1, w1, exV]))
    | refine op_nil ?_ | refine next_normal ?_ | refine go_seq ?_ | refine go_region ?_ | refine go_skip ?_ | refine go_block ?_ | refine inb_normal ?_
    | (apply go_yes; (case hc => simp [g1, g2, hlt, v1, w1, exV])) | (apply go_no; (case hc => simp [g1, g2, hlt, v1, w1, exV]))
    | refine go_exit ?_ | refine next_exit ?_ | refine inb_here ?_ | refine inb_past (by decide) ?_ | refine go_ret ?_ | refine next_ret ?_ | refine inb_ret ?_))
      exact ⟨hlt, by simp [exV, w1], fun j h hj => by
        rcases Nat.lt_or_ge j i with h1 | h1
        · exact hI j h h1
        · have : j = i := by omega
          subst this
          exact hm⟩
  · have g1 : ¬ (i : Int) < l.length := by omega
    have hf : l.findIdx? (fun y => decide (meetP x y)) = none := by
      rw [List.findIdx?_eq_none_iff]
      intro y hy
      obtain ⟨j, hj, rfl⟩ := List.mem_iff_getElem.1 hy
      simpa using hI j hj (by omega)
    rw [hf] at hR
    simp only at hR
    subst hR
    (repeat (first
    | (apply is_ok; (case hw => simp [g1]); (case he => simp [g1]; exact is_rfl))
    | (apply op_no; (case hw => simp [g1]))
    | refine op_nil ?_ | refine next_normal ?_ | refine go_seq ?_ | refine go_region ?_ | refine go_skip ?_ | refine go_block ?_ | refine inb_normal ?_
    | (apply go_yes; (case hc => simp [g1])) | (apply go_no; (case hc => simp [g1]))
    | refine go_exit ?_ | refine next_exit ?_ | refine inb_here ?_ | refine inb_past (by decide) ?_ | refine go_ret ?_ | refine next_ret ?_ | refine inb_ret ?_))
    (apply ends_ok; (case h1 => simp; exact is_rfl); (case h2 => simp; exact is_rfl))
    simp

theorem apCont_eq (l : List Ex) (hl : l.length ≤ 1000) (hb : ∀ y ∈ l, BigP y) (x w : Ex) (hx : BigP x) : bodyW DC 33 [.sl (l.map exV), .fn 65 [.ptr 1 1 0 0]] [.box (.agg [.int .i64 w.1, .int .i64 w.2]), .box (.agg [.int .i64 x.1, .int .i64 x.2])] =
    some (.bool (decide (∃ y ∈ l, meetP x y)), [.box (.agg [.int .i64 w.1, .int .i64 w.2]), .box (.agg [.int .i64 x.1, .int .i64 x.2])]) := by
  have v1 := apIdx_eq l hl hb x w hx
  have v2 := idxI_iff x l
  generalize idxI x l = r at v1 v2
  (refine gives_iff ?_; refine go_func Try.f33 rfl rfl (by simp [Try.f33]) ?_; dsimp only [codeL, Try.f33, scL, sopsL, guardL, dstAt, loopKey])
  (repeat (first
    | (apply is_ok; (case hw => simp [v1]); (case he => simp [v1]; exact is_rfl))
    | (apply op_no; (case hw => simp [v1]))
    | refine op_nil ?_ | refine next_normal ?_ | refine go_seq ?_ | refine go_region ?_ | refine go_skip ?_ | refine go_block ?_ | refine inb_normal ?_
    | (apply go_yes; (case hc => simp [v1])) | (apply go_no; (case hc => simp [v1]))
    | refine go_exit ?_ | refine next_exit ?_ | refine inb_here ?_ | refine inb_past (by decide) ?_ | refine go_ret ?_ | refine next_ret ?_ | refine inb_ret ?_))
  (apply ends_ok; (case h1 => simp; exact is_rfl); (case h2 => simp; exact is_rfl))
  exact ⟨by congr 1; exact decide_eq_decide.2 v2, rfl⟩

def inP (w x : Ex) : Prop := w.1 ≤ x.1 ∧ x.1 + x.2 ≤ w.1 + w.2
instance (w x : Ex) : Decidable (inP w x) := by unfold inP; infer_instance
/-- Do extents lie within another one, and do not meet? -/
def apP (l : List Ex) (w : Ex) : Prop := ∀ i (h : i < l.length), inP w l[i] ∧ ∀ j (hj : j < i), ¬ meetP l[i] (l[j]'(by omega))
noncomputable def apB (l : List Ex) (w : Ex) : Bool := @decide (apP l w) (Classical.propDecidable _)
theorem apB_iff {l : List Ex} {w : Ex} : apB l w = true ↔ apP l w := by unfold apB; simp

/-- Extents of some units, none far away. -/
def UpP (a : Ex) : Prop := 0 ≤ a.1 ∧ a.1 ≤ 4000000 ∧ 0 < a.2 ∧ a.2 ≤ 4000000
theorem UpP.big {a : Ex} (h : UpP a) : BigP a := ⟨h.1, h.2.1, Int.le_of_lt h.2.2.1, h.2.2.2⟩

theorem apart_eq (l : List Ex) (hl : l.length ≤ 1000) (hb : ∀ y ∈ l, UpP y) (w : Ex) (hw : BigP w) : bodyW DC 42 [.sl (l.map exV), .agg [.int .i64 w.1, .int .i64 w.2]] [] = some (.bool (apB l w), []) := by
  generalize hB : apB l w = B
  (refine gives_iff ?_; refine go_func Try.f42 rfl rfl (by simp [Try.f42]) ?_; dsimp only [codeL, Try.f42, scL, sopsL, guardL, dstAt, loopKey])
  (repeat (first
    | (apply is_ok; (case hw => simp); (case he => simp; exact is_rfl))
    | (apply op_no; (case hw => simp))
    | refine op_nil ?_ | refine next_normal ?_ | refine go_seq ?_ | refine go_region ?_ | refine go_skip ?_ | refine go_block ?_ | refine inb_normal ?_
    | (apply go_yes; (case hc => simp)) | (apply go_no; (case hc => simp))
    | refine go_exit ?_ | refine next_exit ?_ | refine inb_here ?_ | refine inb_past (by decide) ?_ | refine go_ret ?_ | refine next_ret ?_ | refine inb_ret ?_))
  refine go_count l.length (fun i => [(0, .sl (l.map exV)), (3, .ptr 0 1 0 0), (7, .sl (l.map exV)), (8, .int .i64 l.length), (9, .int .i64 i)]) (fun _ => [.box (.agg [.int .i64 w.1, .int .i64 w.2])]) (fun i => ∀ k (h : k < l.length), k < i → inP w l[k] ∧ ∀ j (hj : j < k), ¬ meetP l[k] (l[j]'(by omega))) (by simp) (fun j _ h => absurd h (Nat.not_lt_zero j)) fun i hi hI => ?_
  by_cases hlt : i < l.length
  · have g1 : (i : Int) < l.length := by omega
    have g2 : l[i]? = some l[i] := List.getElem?_eq_getElem hlt
    have g3 : i ≤ l.length := by omega
    have g4 : (i : Int) ≤ l.length := by omega
    have g5 : (0 : Int) ≤ i := by omega
    have w1 : IntKind.i64.wrap ((i : Int) + 1) = (i : Int) + 1 := wrap_id (by omega) (by omega)
    have hx := hb _ (List.getElem_mem hlt)
    have v1 := within_eq l[i] w hx hw
    have v2 := apCont_eq (l.take i) (by rw [List.length_take]; omega) (fun y hy => (hb y (List.mem_of_mem_take hy)).big) l[i] w hx.big
    have e2 : (∃ y ∈ l.take i, meetP l[i] y) ↔ ¬ ∀ j (hj : j < i), ¬ meetP l[i] (l[j]'(by omega)) := by
      constructor
      · rintro ⟨y, hy, hm⟩ hn
        obtain ⟨j, hj, rfl⟩ := List.mem_iff_getElem.1 hy
        rw [List.length_take] at hj
        rw [List.getElem_take] at hm
        exact hn j (by omega) hm
      · intro hn
        by_cases hc : ∃ y ∈ l.take i, meetP l[i] y
        · exact hc
        · exact absurd (fun j hj hm => hc ⟨l[j], List.mem_iff_getElem.2 ⟨j, by rw [List.length_take]; omega, by rw [List.getElem_take]⟩, hm⟩) hn
    rw [List.map_take] at v2
    change bodyW DC _ _ _ = some (.bool (decide (inP w l[i])), []) at v1
    by_cases c1 : inP w l[i]
    · rw [decide_eq_true c1] at v1
      by_cases c2 : ∃ y ∈ l.take i, meetP l[i] y
      · rw [decide_eq_true c2] at v2
        have hf : B = false := by
          rw [← hB]
          cases hc : apB l w with
          | false => rfl
          | true => exact absurd (apB_iff.1 hc i hlt).2 (e2.1 c2)
        subst hf
        (repeat (first
    | (apply is_ok; (case hw => simp [g1, g2, g3, g4, g5, hlt, v1, v2, exV]); (case he => simp [g1, g2, g3, g4, g5, hlt, v1, v2, exV]; exact is_rfl))
    | (apply op_no; (case hw => simp [g1, g2, g3, g4, g5, hlt, v1, v2, exV]))
    | refine op_nil ?_ | refine next_normal ?_ | refine go_seq ?_ | refine go_region ?_ | refine go_skip ?_ | refine go_block ?_ | refine inb_normal ?_
    | (apply go_yes; (case hc => simp [g1, g2, g3, g4, g5, hlt, v1, v2, exV])) | (apply go_no; (case hc => simp [g1, g2, g3, g4, g5, hlt, v1, v2, exV]))
    | refine go_exit ?_ | refine next_exit ?_ | refine inb_here ?_ | refine inb_past (by decide) ?_ | refine go_ret ?_ | refine next_ret ?_ | refine inb_ret ?_))
        (apply ends_ok; (case h1 => simp; exact is_rfl); (case h2 => simp; exact is_rfl))
        simp
      · rw [decide_eq_false c2] at v2
        (repeat (first
    | (apply is_ok; (case hw => simp [g1, g2, g3, g4, g5, hlt, v1, v2, w1, exV]); (case he => simp [g1, g2, g3, g4, g5, hlt, v1, v2, w1, exV]; exact is_rfl))
    | (apply op_no; (case hw => simp [g1, g2, g3, g4, g5, hlt, v1, v2, w1, exV]))
    | refine op_nil ?_ | refine next_normal ?_ | refine go_seq ?_ | refine go_region ?_ | refine go_skip ?_ | refine go_block ?_ | refine inb_normal ?_
    | (apply go_yes; (case hc => simp [g1, g2, g3, g4, g5, hlt, v1, v2, w1, exV])) | (apply go_no; (case hc => simp [g1, g2, g3, g4, g5, hlt, v1, v2, w1, exV]))
    | refine go_exit ?_ | refine next_exit ?_ | refine inb_here ?_ | refine inb_past (by decide) ?_ | refine go_ret ?_ | refine next_ret ?_ | refine inb_ret ?_))
        exact ⟨hlt, by simp [w1, exV], fun k h hk => by
          rcases Nat.lt_or_ge k i with h1 | h1
          · exact hI k h h1
          · have : k = i := by omega
            subst this
            exact ⟨c1, Classical.not_not.1 fun hn => c2 (e2.2 hn)⟩⟩
    · rw [decide_eq_false c1] at v1
      have hf : B = false := by
        rw [← hB]
        cases hc : apB l w with
        | false => rfl
        | true => exact absurd (apB_iff.1 hc i hlt).1 c1
      subst hf
      by_cases c2 : ∃ y ∈ l.take i, meetP l[i] y
      · rw [decide_eq_true c2] at v2
        (repeat (first
    | (apply is_ok; (case hw => simp [g1, g2, g3, g4, g5, hlt, v1, v2, exV]); (case he => simp [g1, g2, g3, g4, g5, hlt, v1, v2, exV]; exact is_rfl))
    | (apply op_no; (case hw => simp [g1, g2, g3, g4, g5, hlt, v1, v2, exV]))
    | refine op_nil ?_ | refine next_normal ?_ | refine go_seq ?_ | refine go_region ?_ | refine go_skip ?_ | refine go_block ?_ | refine inb_normal ?_
    | (apply go_yes; (case hc => simp [g1, g2, g3, g4, g5, hlt, v1, v2, exV])) | (apply go_no; (case hc => simp [g1, g2, g3, g4, g5, hlt, v1, v2, exV]))
    | refine go_exit ?_ | refine next_exit ?_ | refine inb_here ?_ | refine inb_past (by decide) ?_ | refine go_ret ?_ | refine next_ret ?_ | refine inb_ret ?_))
        (apply ends_ok; (case h1 => simp; exact is_rfl); (case h2 => simp; exact is_rfl))
        simp
      · rw [decide_eq_false c2] at v2
        (repeat (first
    | (apply is_ok; (case hw => simp [g1, g2, g3, g4, g5, hlt, v1, v2, exV]); (case he => simp [g1, g2, g3, g4, g5, hlt, v1, v2, exV]; exact is_rfl))
    | (apply op_no; (case hw => simp [g1, g2, g3, g4, g5, hlt, v1, v2, exV]))
    | refine op_nil ?_ | refine next_normal ?_ | refine go_seq ?_ | refine go_region ?_ | refine go_skip ?_ | refine go_block ?_ | refine inb_normal ?_
    | (apply go_yes; (case hc => simp [g1, g2, g3, g4, g5, hlt, v1, v2, exV])) | (apply go_no; (case hc => simp [g1, g2, g3, g4, g5, hlt, v1, v2, exV]))
    | refine go_exit ?_ | refine next_exit ?_ | refine inb_here ?_ | refine inb_past (by decide) ?_ | refine go_ret ?_ | refine next_ret ?_ | refine inb_ret ?_))
        (apply ends_ok; (case h1 => simp; exact is_rfl); (case h2 => simp; exact is_rfl))
        simp
  · have g1 : ¬ (i : Int) < l.length := by omega
    have hf : B = true := by rw [← hB, apB_iff]; exact fun k h => hI k h (by omega)
    subst hf
    (repeat (first
    | (apply is_ok; (case hw => simp [g1]); (case he => simp [g1]; exact is_rfl))
    | (apply op_no; (case hw => simp [g1]))
    | refine op_nil ?_ | refine next_normal ?_ | refine go_seq ?_ | refine go_region ?_ | refine go_skip ?_ | refine go_block ?_ | refine inb_normal ?_
    | (apply go_yes; (case hc => simp [g1])) | (apply go_no; (case hc => simp [g1]))
    | refine go_exit ?_ | refine next_exit ?_ | refine inb_here ?_ | refine inb_past (by decide) ?_ | refine go_ret ?_ | refine next_ret ?_ | refine inb_ret ?_))
    (apply ends_ok; (case h1 => simp; exact is_rfl); (case h2 => simp; exact is_rfl))
    simp

theorem placed_eq (l : List Ex) (hl : l.length ≤ 1000) (hb : ∀ y ∈ l, UpP y) (w : Ex) (hw : BigP w) : bodyW DC 43 [.sl (l.map exV), .agg [.int .i64 w.1, .int .i64 w.2]] [] = some (.bool (apB l w), []) := by
  generalize hB : apB l w = B
  (refine gives_iff ?_; refine go_func Try.f43 rfl rfl (by simp [Try.f43]) ?_; dsimp only [codeL, Try.f43, scL, sopsL, guardL, dstAt, loopKey])
  (repeat (first
    | (apply is_ok; (case hw => simp); (case he => simp; exact is_rfl))
    | (apply op_no; (case hw => simp))
    | refine op_nil ?_ | refine next_normal ?_ | refine go_seq ?_ | refine go_region ?_ | refine go_skip ?_ | refine go_block ?_ | refine inb_normal ?_
    | (apply go_yes; (case hc => simp)) | (apply go_no; (case hc => simp))
    | refine go_exit ?_ | refine next_exit ?_ | refine inb_here ?_ | refine inb_past (by decide) ?_ | refine go_ret ?_ | refine next_ret ?_ | refine inb_ret ?_))
  refine go_count l.length (fun i => [(0, .sl (l.map exV)), (3, .ptr 0 1 0 0), (5, .int .i64 i)]) (fun _ => [.box (.agg [.int .i64 w.1, .int .i64 w.2])]) (fun i => ∀ k (h : k < l.length), k < i → inP w l[k] ∧ ∀ j (hj : j < k), ¬ meetP l[k] (l[j]'(by omega))) (by simp) (fun j _ h => absurd h (Nat.not_lt_zero j)) fun i hi hI => ?_
  by_cases hlt : i < l.length
  · have g1 : (i : Int) < l.length := by omega
    have g2 : l[i]? = some l[i] := List.getElem?_eq_getElem hlt
    have w1 : IntKind.i64.wrap ((i : Int) + 1) = (i : Int) + 1 := wrap_id (by omega) (by omega)
    have hx := hb _ (List.getElem_mem hlt)
    have v1 := Within_eq l[i] w hx hw
    change bodyW DC _ _ _ = some (.bool (decide (inP w l[i])), []) at v1
    by_cases c1 : inP w l[i]
    · rw [decide_eq_true c1] at v1
      (repeat (first
    | (apply is_ok; (case hw => simp [g1, g2, hlt, v1, w1, exV]); (case he => simp [g1, g2, hlt, v1, w1, exV]; exact is_rfl))
    | (apply op_no; (case hw => simp [g1, g2, hlt, v1, w1, exV]))
    | refine op_nil ?_ | refine next_normal ?_ | refine go_seq ?_ | refine go_region ?_ | refine go_skip ?_ | refine go_block ?_ | refine inb_normal ?_
    | (apply go_yes; (case hc => simp [g1, g2, hlt, v1, w1, exV])) | (apply go_no; (case hc => simp [g1, g2, hlt, v1, w1, exV]))
    | refine go_exit ?_ | refine next_exit ?_ | refine inb_here ?_ | refine inb_past (by decide) ?_ | refine go_ret ?_ | refine next_ret ?_ | refine inb_ret ?_))
      refine go_count i (fun j => [(0, .sl (l.map exV)), (3, .ptr 0 1 0 0), (5, .int .i64 i), (6, .int .i64 j)]) (fun _ => [.box (.agg [.int .i64 w.1, .int .i64 w.2])]) (fun j => ∀ k (hk : k < i), k < j → ¬ meetP l[i] (l[k]'(by omega))) (by simp [exV]) (fun j _ h => absurd h (Nat.not_lt_zero j)) fun j hj hJ => ?_
      by_cases hlj : j < i
      · have g3 : (j : Int) < i := by omega
        have hlj' : j < l.length := by omega
        have g4 : l[j]? = some l[j] := List.getElem?_eq_getElem hlj'
        have w2 : IntKind.i64.wrap ((j : Int) + 1) = (j : Int) + 1 := wrap_id (by omega) (by omega)
        have v2 := Meet_eq l[i] l[j] hx.big (hb _ (List.getElem_mem hlj')).big
        by_cases c2 : meetP l[i] l[j]
        · rw [decide_eq_true c2] at v2
          have hf : B = false := by
            rw [← hB]
            cases hc : apB l w with
            | false => rfl
            | true => exact absurd c2 ((apB_iff.1 hc i hlt).2 j hlj)
          subst hf
          (repeat (first
    | (apply is_ok; (case hw => simp [g1, g2, g3, g4, hlj, hlj', hlt, v2, exV]); (case he => simp [g1, g2, g3, g4, hlj, hlj', hlt, v2, exV]; exact is_rfl))
    | (apply op_no; (case hw => simp [g1, g2, g3, g4, hlj, hlj', hlt, v2, exV]))
    | refine op_nil ?_ | refine next_normal ?_ | refine go_seq ?_ | refine go_region ?_ | refine go_skip ?_ | refine go_block ?_ | refine inb_normal ?_
    | (apply go_yes; (case hc => simp [g1, g2, g3, g4, hlj, hlj', hlt, v2, exV])) | (apply go_no; (case hc => simp [g1, g2, g3, g4, hlj, hlj', hlt, v2, exV]))
    | refine go_exit ?_ | refine next_exit ?_ | refine inb_here ?_ | refine inb_past (by decide) ?_ | refine go_ret ?_ | refine next_ret ?_ | refine inb_ret ?_))
          (apply ends_ok; (case h1 => simp; exact is_rfl); (case h2 => simp; exact is_rfl))
          simp
        · rw [decide_eq_false c2] at v2
          (repeat (first
    | (apply is_ok; (case hw => simp [g1, g2, g3, g4, hlj, hlj', hlt, v2, w2, exV]); (case he => simp [g1, g2, g3, g4, hlj, hlj', hlt, v2, w2, exV]; exact is_rfl))
    | (apply op_no; (case hw => simp [g1, g2, g3, g4, hlj, hlj', hlt, v2, w2, exV]))
    | refine op_nil ?_ | refine next_normal ?_ | refine go_seq ?_ | refine go_region ?_ | refine go_skip ?_ | refine go_block ?_ | refine inb_normal ?_
    | (apply go_yes; (case hc => simp [g1, g2, g3, g4, hlj, hlj', hlt, v2, w2, exV])) | (apply go_no; (case hc => simp [g1, g2, g3, g4, hlj, hlj', hlt, v2, w2, exV]))
    | refine go_exit ?_ | refine next_exit ?_ | refine inb_here ?_ | refine inb_past (by decide) ?_ | refine go_ret ?_ | refine next_ret ?_ | refine inb_ret ?_))
          exact ⟨hlj, by simp [w2, exV], fun k h hk => by
            rcases Nat.lt_or_ge k j with h1 | h1
            · exact hJ k h h1
            · have : k = j := by omega
              subst this
              exact c2⟩
      · have : j = i := by omega
        subst this
        (repeat (first
    | (apply is_ok; (case hw => simp [w1]); (case he => simp [w1]; exact is_rfl))
    | (apply op_no; (case hw => simp [w1]))
    | refine op_nil ?_ | refine next_normal ?_ | refine go_seq ?_ | refine go_region ?_ | refine go_skip ?_ | refine go_block ?_ | refine inb_normal ?_
    | (apply go_yes; (case hc => simp [w1])) | (apply go_no; (case hc => simp [w1]))
    | refine go_exit ?_ | refine next_exit ?_ | refine inb_here ?_ | refine inb_past (by decide) ?_ | refine go_ret ?_ | refine next_ret ?_ | refine inb_ret ?_))
        exact ⟨hlt, by simp [w1, exV], fun k h hk => by
          rcases Nat.lt_or_ge k j with h1 | h1
          · exact hI k h h1
          · have : k = j := by omega
            subst this
            exact ⟨c1, fun m hm => hJ m hm hm⟩⟩
    · rw [decide_eq_false c1] at v1
      have hf : B = false := by
        rw [← hB]
        cases hc : apB l w with
        | false => rfl
        | true => exact absurd (apB_iff.1 hc i hlt).1 c1
      subst hf
      (repeat (first
    | (apply is_ok; (case hw => simp [g1, g2, hlt, v1, exV]); (case he => simp [g1, g2, hlt, v1, exV]; exact is_rfl))
    | (apply op_no; (case hw => simp [g1, g2, hlt, v1, exV]))
    | refine op_nil ?_ | refine next_normal ?_ | refine go_seq ?_ | refine go_region ?_ | refine go_skip ?_ | refine go_block ?_ | refine inb_normal ?_
    | (apply go_yes; (case hc => simp [g1, g2, hlt, v1, exV])) | (apply go_no; (case hc => simp [g1, g2, hlt, v1, exV]))
    | refine go_exit ?_ | refine next_exit ?_ | refine inb_here ?_ | refine inb_past (by decide) ?_ | refine go_ret ?_ | refine next_ret ?_ | refine inb_ret ?_))
      (apply ends_ok; (case h1 => simp; exact is_rfl); (case h2 => simp; exact is_rfl))
      simp
  · have g1 : ¬ (i : Int) < l.length := by omega
    have hf : B = true := by rw [← hB, apB_iff]; exact fun k h => hI k h (by omega)
    subst hf
    (repeat (first
    | (apply is_ok; (case hw => simp [g1]); (case he => simp [g1]; exact is_rfl))
    | (apply op_no; (case hw => simp [g1]))
    | refine op_nil ?_ | refine next_normal ?_ | refine go_seq ?_ | refine go_region ?_ | refine go_skip ?_ | refine go_block ?_ | refine inb_normal ?_
    | (apply go_yes; (case hc => simp [g1])) | (apply go_no; (case hc => simp [g1]))
    | refine go_exit ?_ | refine next_exit ?_ | refine inb_here ?_ | refine inb_past (by decide) ?_ | refine go_ret ?_ | refine next_ret ?_ | refine inb_ret ?_))
    (apply ends_ok; (case h1 => simp; exact is_rfl); (case h2 => simp; exact is_rfl))
    simp

theorem eqL_ex (a b c d : Int) : eqL Try.prog 10000 24 [.int .i64 a, .int .i64 b] [.int .i64 c, .int .i64 d] = some ((a == c) && (b == d)) := by
  have s1 : Try.prog.stoodInHeld 24 = false := by kernel_rfl
  have o1 : okT Try.prog 3 = true := by kernel_rfl
  have z1 : sizeL Try.prog 3 = 1 := by kernel_rfl
  rw [show (10000 : Nat) = 9997 + 3 from rfl]
  generalize 9997 = n
  simp [eqL, eqFs, eqNs, s1, o1, z1, Try.underlying24, Try.underlying3]
theorem ex_neq (a b : Int) : binV Try.prog .neq 24 (.agg [.int .i64 a, .int .i64 b]) (.agg [.int .i64 a, .int .i64 b]) = some (.bool false) := by
  have h := (binV_agg (P := Try.prog) (t := 24) (d := 10000) rfl (by kernel_rfl) (by kernel_rfl) rfl rfl (eqL_ex a b a b)).2
  simpa using h
theorem SameEx_eq (l : List Ex) (hl : l.length ≤ 1000) : bodyW DC 15 [.sl (l.map exV), .sl (l.map exV)] [] = some (.bool true, []) := by
  (refine gives_iff ?_; refine go_func Try.f15 rfl rfl (by simp [Try.f15]) ?_; dsimp only [codeL, Try.f15, scL, sopsL, guardL, dstAt, loopKey])
  (repeat (first
    | (apply is_ok; (case hw => simp); (case he => simp; exact is_rfl))
    | (apply op_no; (case hw => simp))
    | refine op_nil ?_ | refine next_normal ?_ | refine go_seq ?_ | refine go_region ?_ | refine go_skip ?_ | refine go_block ?_ | refine inb_normal ?_
    | (apply go_yes; (case hc => simp)) | (apply go_no; (case hc => simp))
    | refine go_exit ?_ | refine next_exit ?_ | refine inb_here ?_ | refine inb_past (by decide) ?_ | refine go_ret ?_ | refine next_ret ?_ | refine inb_ret ?_))
  refine go_count l.length (fun i => [(0, .sl (l.map exV)), (1, .sl (l.map exV)), (5, .int .i64 i)]) (fun _ => []) (fun i => True) (by simp) trivial fun i hi _ => ?_
  by_cases hlt : i < l.length
  · have g1 : (i : Int) < l.length := by omega
    have g2 : l[i]? = some l[i] := List.getElem?_eq_getElem hlt
    have w1 : IntKind.i64.wrap ((i : Int) + 1) = (i : Int) + 1 := wrap_id (by omega) (by omega)
    (repeat (first
    | (apply is_ok; (case hw => simp [-binV, g1, g2, hlt, w1, exV, ex_neq]); (case he => simp [-binV, g1, g2, hlt, w1, exV, ex_neq]; exact is_rfl))
    | (apply op_no; (case hw => simp [-binV, g1, g2, hlt, w1, exV, ex_neq]))
    | refine op_nil ?_ | refine next_normal ?_ | refine go_seq ?_ | refine go_region ?_ | refine go_skip ?_ | refine go_block ?_ | refine inb_normal ?_
    | (apply go_yes; (case hc => simp [-binV, g1, g2, hlt, w1, exV, ex_neq])) | (apply go_no; (case hc => simp [-binV, g1, g2, hlt, w1, exV, ex_neq]))
    | refine go_exit ?_ | refine next_exit ?_ | refine inb_here ?_ | refine inb_past (by decide) ?_ | refine go_ret ?_ | refine next_ret ?_ | refine inb_ret ?_))
    exact ⟨hlt, by simp [w1, exV], trivial⟩
  · have g1 : ¬ (i : Int) < l.length := by omega
    (repeat (first
    | (apply is_ok; (case hw => simp [g1]); (case he => simp [g1]; exact is_rfl))
    | (apply op_no; (case hw => simp [g1]))
    | refine op_nil ?_ | refine next_normal ?_ | refine go_seq ?_ | refine go_region ?_ | refine go_skip ?_ | refine go_block ?_ | refine inb_normal ?_
    | (apply go_yes; (case hc => simp [g1])) | (apply go_no; (case hc => simp [g1]))
    | refine go_exit ?_ | refine next_exit ?_ | refine inb_here ?_ | refine inb_past (by decide) ?_ | refine go_ret ?_ | refine next_ret ?_ | refine inb_ret ?_))
    (apply ends_ok; (case h1 => simp; exact is_rfl); (case h2 => simp; exact is_rfl))
    simp

theorem swSmall_eq (p : Ex) : bodyW DC 41 [.agg [.int .i64 p.1, .int .i64 p.2]] [] = some (.bool (decide (UsuP p)), []) := by
  unfold UsuP
  by_cases h1 : 0 ≤ p.1 <;> by_cases h2 : p.1 ≤ 1048576 <;> by_cases h3 : 0 ≤ p.2 <;>
  · (refine gives_iff ?_; refine go_func Try.f41 rfl rfl (by simp [Try.f41]) ?_; dsimp only [codeL, Try.f41, scL, sopsL, guardL, dstAt, loopKey])
    (repeat (first
    | (apply is_ok; (case hw => simp [h1, h2, h3]); (case he => simp [h1, h2, h3]; exact is_rfl))
    | (apply op_no; (case hw => simp [h1, h2, h3]))
    | refine op_nil ?_ | refine next_normal ?_ | refine go_seq ?_ | refine go_region ?_ | refine go_skip ?_ | refine go_block ?_ | refine inb_normal ?_
    | (apply go_yes; (case hc => simp [h1, h2, h3])) | (apply go_no; (case hc => simp [h1, h2, h3]))
    | refine go_exit ?_ | refine next_exit ?_ | refine inb_here ?_ | refine inb_past (by decide) ?_ | refine go_ret ?_ | refine next_ret ?_ | refine inb_ret ?_))
    (apply ends_ok; (case h1 => simp; exact is_rfl); (case h2 => simp; exact is_rfl))
    simp [h1, h2, h3]
end Go.Abs
