/- Proved here: what functions of the program compute, over the evaluator. No condition but those that each theorem states. -/
import Derived.Test.YtbnnaaadblpgiaaGreatM3
import Derived.Test.YtbnnaaadblpgiaaGreatM2
namespace Go.Abs
open Go.Proofs
set_option maxRecDepth 100000
set_option linter.unusedSimpArgs false
set_option linter.unusedVariables false

theorem ap1_eq (y x w : Ex) (hy : BigP y) (hx : BigP x) : bodyW DC 89 [.agg [.int .i64 y.1, .int .i64 y.2], .ptr 1 1 0 0] [.box (.agg [.int .i64 w.1, .int .i64 w.2]), .box (.agg [.int .i64 x.1, .int .i64 x.2])] =
    some (.bool (decide (meetP x y)), [.box (.agg [.int .i64 w.1, .int .i64 w.2]), .box (.agg [.int .i64 x.1, .int .i64 x.2])]) := by
  have v1 := meet_eq x y hx hy
  (refine gives_iff ?_; refine go_func Tryz.f89 rfl rfl (by simp [Tryz.f89]) ?_; dsimp only [codeL, Tryz.f89, scL, sopsL, guardL, dstAt, loopKey])
  (repeat (first
    | (apply is_ok; (case hw => simp [v1]); (case he => simp [v1]; exact is_rfl))
    | (apply op_no; (case hw => simp [v1]))
    | refine op_nil ?_ | refine next_normal ?_ | refine go_seq ?_ | refine go_region ?_ | refine go_skip ?_ | refine go_block ?_ | refine inb_normal ?_
    | (apply go_yes; (case hc => simp [v1])) | (apply go_no; (case hc => simp [v1]))
    | refine go_exit ?_ | refine next_exit ?_ | refine inb_here ?_ | refine inb_past (by decide) ?_ | refine go_ret ?_ | refine next_ret ?_ | refine inb_ret ?_))
  (apply ends_ok; (case h1 => simp; exact is_rfl); (case h2 => simp; exact is_rfl))
  simp

theorem apIdx_eq (l : List Ex) (hl : l.length ≤ 1000) (hb : ∀ y ∈ l, BigP y) (x w : Ex) (hx : BigP x) : bodyW DC 77 [.sl (l.map exV), .fn 89 [.ptr 1 1 0 0]] [.box (.agg [.int .i64 w.1, .int .i64 w.2]), .box (.agg [.int .i64 x.1, .int .i64 x.2])] =
    some (.int .i64 (idxI x l), [.box (.agg [.int .i64 w.1, .int .i64 w.2]), .box (.agg [.int .i64 x.1, .int .i64 x.2])]) := by
  generalize hR : idxI x l = R
  unfold idxI at hR
  (refine gives_iff ?_; refine go_func Tryz.f77 rfl rfl (by simp [Tryz.f77]) ?_; dsimp only [codeL, Tryz.f77, scL, sopsL, guardL, dstAt, loopKey])
  (repeat (first
    | (apply is_ok; (case hw => simp); (case he => simp; exact is_rfl))
    | (apply op_no; (case hw => simp))
    | refine op_nil ?_ | refine next_normal ?_ | refine go_seq ?_ | refine go_region ?_ | refine go_skip ?_ | refine go_block ?_ | refine inb_normal ?_
    | (apply go_yes; (case hc => simp)) | (apply go_no; (case hc => simp))
    | refine go_exit ?_ | refine next_exit ?_ | refine inb_here ?_ | refine inb_past (by decide) ?_ | refine go_ret ?_ | refine next_ret ?_ | refine inb_ret ?_))
  refine go_count l.length (fun i => [(0, .sl (l.map exV)), (1, .fn 89 [.ptr 1 1 0 0]), (7, .int .i64 l.length), (8, .int .i64 i)]) (fun _ => [.box (.agg [.int .i64 w.1, .int .i64 w.2]), .box (.agg [.int .i64 x.1, .int .i64 x.2])]) (fun i => ∀ j (h : j < l.length), j < i → ¬ meetP x l[j]) (by simp) (fun j _ h => absurd h (Nat.not_lt_zero j)) fun i hi hI => ?_
  by_cases hlt : i < l.length
  · have g1 : (i : Int) < l.length := by omega
    have g2 : l[i]? = some l[i] := List.getElem?_eq_getElem hlt
    have w1 : IntKind.i64.wrap ((i : Int) + 1) = (i : Int) + 1 := wrap_id (by omega) (by omega)
    have v1 := ap1_eq l[i] x w (hb _ (List.getElem_mem hlt)) hx
    by_cases hm : meetP x l[i]
    · rw [decide_eq_true hm] at v1
      have hf : l.findIdx? (fun y => decide (meetP x y)) = some i := by
        rw [List.findIdx?_eq_some_iff_getElem]
        exact ⟨hlt, by simpa using hm, fun j hj => by simpa using hI j (by omega) hj⟩
      rw [hf] at hR
      simp only at hR
      subst hR
      (repeat (first
    | (apply is_ok; (case hw => simp [g1, g2, hlt, v1, exV]); (case he => simp [g1, g2, hlt, v1, exV]; exact is_rfl))
    | (apply op_no; (case hw => simp [g1, g2, hlt, v1, exV]))
    | refine op_nil ?_ | refine next_normal ?_ | refine go_seq ?_ | refine go_region ?_ | refine go_skip ?_ | refine go_block ?_ | refine inb_normal ?_
    | (apply go_yes; (case hc => simp [g1, g2, hlt, v1, exV])) | (apply go_no; (case hc => simp [g1, g2, hlt, v1, exV]))
    | refine go_exit ?_ | refine next_exit ?_ | refine inb_here ?_ | refine inb_past (by decide) ?_ | refine go_ret ?_ | refine next_ret ?_ | refine inb_ret ?_))
      (apply ends_ok; (case h1 => simp; exact is_rfl); (case h2 => simp; exact is_rfl))
      simp
    · rw [decide_eq_false hm] at v1
      (repeat (first
    | (apply is_ok; (case hw => simp [g1, g2, hlt, v1, w1, exV]); (case he => simp [g1, g2, hlt, v1, w1, exV]; exact is_rfl))
    | (apply op_no; (case hw => simp [g1, g2, hlt, v1, w1, exV]))
    | refine op_nil ?_ | refine next_normal ?_ | refine go_seq ?_ | refine go_region ?_ | refine go_skip ?_ | refine go_block ?_ | refine inb_normal ?_
    | (apply go_yes; (case hc => simp [g1, g2, hlt, v1, w1, exV])) | (apply go_no; (case hc => simp [g1, g2, hlt, v1, w1, exV]))
    | refine go_exit ?_ | refine next_exit ?_ | refine inb_here ?_ | refine inb_past (by decide) ?_ | refine go_ret ?_ | refine next_ret ?_ | refine inb_ret ?_))
      exact ⟨hlt, by simp [exV, w1], fun j h hj => by
        rcases Nat.lt_or_ge j i with h1 | h1
        · exact hI j h h1
        · have : j = i := by omega
          subst this
          exact hm⟩
  · have g1 : ¬ (i : Int) < l.length := by omega
    have hf : l.findIdx? (fun y => decide (meetP x y)) = none := by
      rw [List.findIdx?_eq_none_iff]
      intro y hy
      obtain ⟨j, hj, rfl⟩ := List.mem_iff_getElem.1 hy
      simpa using hI j hj (by omega)
    rw [hf] at hR
    simp only at hR
    subst hR
    (repeat (first
    | (apply is_ok; (case hw => simp [g1]); (case he => simp [g1]; exact is_rfl))
    | (apply op_no; (case hw => simp [g1]))
    | refine op_nil ?_ | refine next_normal ?_ | refine go_seq ?_ | refine go_region ?_ | refine go_skip ?_ | refine go_block ?_ | refine inb_normal ?_
    | (apply go_yes; (case hc => simp [g1])) | (apply go_no; (case hc => simp [g1]))
    | refine go_exit ?_ | refine next_exit ?_ | refine inb_here ?_ | refine inb_past (by decide) ?_ | refine go_ret ?_ | refine next_ret ?_ | refine inb_ret ?_))
    (apply ends_ok; (case h1 => simp; exact is_rfl); (case h2 => simp; exact is_rfl))
    simp

theorem apCont_eq (l : List Ex) (hl : l.length ≤ 1000) (hb : ∀ y ∈ l, BigP y) (x w : Ex) (hx : BigP x) : bodyW DC 52 [.sl (l.map exV), .fn 89 [.ptr 1 1 0 0]] [.box (.agg [.int .i64 w.1, .int .i64 w.2]), .box (.agg [.int .i64 x.1, .int .i64 x.2])] =
    some (.bool (decide (∃ y ∈ l, meetP x y)), [.box (.agg [.int .i64 w.1, .int .i64 w.2]), .box (.agg [.int .i64 x.1, .int .i64 x.2])]) := by
  have v1 := apIdx_eq l hl hb x w hx
  have v2 := idxI_iff x l
  generalize idxI x l = r at v1 v2
  (refine gives_iff ?_; refine go_func Tryz.f52 rfl rfl (by simp [Tryz.f52]) ?_; dsimp only [codeL, Tryz.f52, scL, sopsL, guardL, dstAt, loopKey])
  (repeat (first
    | (apply is_ok; (case hw => simp [v1]); (case he => simp [v1]; exact is_rfl))
    | (apply op_no; (case hw => simp [v1]))
    | refine op_nil ?_ | refine next_normal ?_ | refine go_seq ?_ | refine go_region ?_ | refine go_skip ?_ | refine go_block ?_ | refine inb_normal ?_
    | (apply go_yes; (case hc => simp [v1])) | (apply go_no; (case hc => simp [v1]))
    | refine go_exit ?_ | refine next_exit ?_ | refine inb_here ?_ | refine inb_past (by decide) ?_ | refine go_ret ?_ | refine next_ret ?_ | refine inb_ret ?_))
  (apply ends_ok; (case h1 => simp; exact is_rfl); (case h2 => simp; exact is_rfl))
  exact ⟨by congr 1; exact decide_eq_decide.2 v2, rfl⟩

def inP (w x : Ex) : Prop := w.1 ≤ x.1 ∧ x.1 + x.2 ≤ w.1 + w.2
instance (w x : Ex) : Decidable (inP w x) := by unfold inP; infer_instance
/-- Do extents lie within another one, and do not meet? -/
def apP (l : List Ex) (w : Ex) : Prop := ∀ i (h : i < l.length), inP w l[i] ∧ ∀ j (hj : j < i), ¬ meetP l[i] (l[j]'(by omega))
noncomputable def apB (l : List Ex) (w : Ex) : Bool := @decide (apP l w) (Classical.propDecidable _)
theorem apB_iff {l : List Ex} {w : Ex} : apB l w = true ↔ apP l w := by unfold apB; simp

/-- Extents of some units, none far away. -/
def UpP (a : Ex) : Prop := 0 ≤ a.1 ∧ a.1 ≤ 4000000 ∧ 0 < a.2 ∧ a.2 ≤ 4000000
theorem UpP.big {a : Ex} (h : UpP a) : BigP a := ⟨h.1, h.2.1, Int.le_of_lt h.2.2.1, h.2.2.2⟩

theorem apart_eq (l : List Ex) (hl : l.length ≤ 1000) (hb : ∀ y ∈ l, UpP y) (w : Ex) (hw : BigP w) : bodyW DC 74 [.sl (l.map exV), .agg [.int .i64 w.1, .int .i64 w.2]] [] = some (.bool (apB l w), []) := by
  generalize hB : apB l w = B
  (refine gives_iff ?_; refine go_func Tryz.f74 rfl rfl (by simp [Tryz.f74]) ?_; dsimp only [codeL, Tryz.f74, scL, sopsL, guardL, dstAt, loopKey])
  (repeat (first
    | (apply is_ok; (case hw => simp); (case he => simp; exact is_rfl))
    | (apply op_no; (case hw => simp))
    | refine op_nil ?_ | refine next_normal ?_ | refine go_seq ?_ | refine go_region ?_ | refine go_skip ?_ | refine go_block ?_ | refine inb_normal ?_
    | (apply go_yes; (case hc => simp)) | (apply go_no; (case hc => simp))
    | refine go_exit ?_ | refine next_exit ?_ | refine inb_here ?_ | refine inb_past (by decide) ?_ | refine go_ret ?_ | refine next_ret ?_ | refine inb_ret ?_))
  refine go_count l.length (fun i => [(0, .sl (l.map exV)), (3, .ptr 0 1 0 0), (7, .sl (l.map exV)), (8, .int .i64 l.length), (9, .int .i64 i)]) (fun _ => [.box (.agg [.int .i64 w.1, .int .i64 w.2])]) (fun i => ∀ k (h : k < l.length), k < i → inP w l[k] ∧ ∀ j (hj : j < k), ¬ meetP l[k] (l[j]'(by omega))) (by simp) (fun j _ h => absurd h (Nat.not_lt_zero j)) fun i hi hI => ?_
  by_cases hlt : i < l.length
  · have g1 : (i : Int) < l.length := by omega
    have g2 : l[i]? = some l[i] := List.getElem?_eq_getElem hlt
    have g3 : i ≤ l.length := by omega
    have g4 : (i : Int) ≤ l.length := by omega
    have g5 : (0 : Int) ≤ i := by omega
    have w1 : IntKind.i64.wrap ((i : Int) + 1) = (i : Int) + 1 := wrap_id (by omega) (by omega)
    have hx := hb _ (List.getElem_mem hlt)
    have v1 := within_eq l[i] w hx hw
    have v2 := apCont_eq (l.take i) (by rw [List.length_take]; omega) (fun y hy => (hb y (List.mem_of_mem_take hy)).big) l[i] w hx.big
    have e2 : (∃ y ∈ l.take i, meetP l[i] y) ↔ ¬ ∀ j (hj : j < i), ¬ meetP l[i] (l[j]'(by omega)) := by
      constructor
      · rintro ⟨y, hy, hm⟩ hn
        obtain ⟨j, hj, rfl⟩ := List.mem_iff_getElem.1 hy
        rw [List.length_take] at hj
        rw [List.getElem_take] at hm
        exact hn j (by omega) hm
      · intro hn
        by_cases hc : ∃ y ∈ l.take i, meetP l[i] y
        · exact hc
        · exact absurd (fun j hj hm => hc ⟨l[j], List.mem_iff_getElem.2 ⟨j, by rw [List.length_take]; omega, by rw [List.getElem_take]⟩, hm⟩) hn
    rw [List.map_take] at v2
    change bodyW DC _ _ _ = some (.bool (decide (inP w l[i])), []) at v1
    by_cases c1 : inP w l[i]
    · rw [decide_eq_true c1] at v1
      by_cases c2 : ∃ y ∈ l.take i, meetP l[i] y
      · rw [decide_eq_true c2] at v2
        have hf : B = false := by
          rw [← hB]
          cases hc : apB l w with
          | false => rfl
          | true => exact absurd (apB_iff.1 hc i hlt).2 (e2.1 c2)
        subst hf
        (repeat (first
    | (apply is_ok; (case hw => simp [g1, g2, g3, g4, g5, hlt, v1, v2, exV]); (case he => simp [g1, g2, g3, g4, g5, hlt, v1, v2, exV]; exact is_rfl))
    | (apply op_no; (case hw => simp [g1, g2, g3, g4, g5, hlt, v1, v2, exV]))
    | refine op_nil ?_ | refine next_normal ?_ | refine go_seq ?_ | refine go_region ?_ | refine go_skip ?_ | refine go_block ?_ | refine inb_normal ?_
    | (apply go_yes; (case hc => simp [g1, g2, g3, g4, g5, hlt, v1, v2, exV])) | (apply go_no; (case hc => simp [g1, g2, g3, g4, g5, hlt, v1, v2, exV]))
    | refine go_exit ?_ | refine next_exit ?_ | refine inb_here ?_ | refine inb_past (by decide) ?_ | refine go_ret ?_ | refine next_ret ?_ | refine inb_ret ?_))
        (apply ends_ok; (case h1 => simp; exact is_rfl); (case h2 => simp; exact is_rfl))
        simp
      · rw [decide_eq_false c2] at v2
        (repeat (first
    | (apply is_ok; (case hw => simp [g1, g2, g3, g4, g5, hlt, v1, v2, w1, exV]); (case he => simp [g1, g2, g3, g4, g5, hlt, v1, v2, w1, exV]; exact is_rfl))
    | (apply op_no; (case hw => simp [g1, g2, g3, g4, g5, hlt, v1, v2, w1, exV]))
    | refine op_nil ?_ | refine next_normal ?_ | refine go_seq ?_ | refine go_region ?_ | refine go_skip ?_ | refine go_block ?_ | refine inb_normal ?_
    | (apply go_yes; (case hc => simp [g1, g2, g3, g4, g5, hlt, v1, v2, w1, exV])) | (apply go_no; (case hc => simp [g1, g2, g3, g4, g5, hlt, v1, v2, w1, exV]))
    | refine go_exit ?_ | refine next_exit ?_ | refine inb_here ?_ | refine inb_past (by decide) ?_ | refine go_ret ?_ | refine next_ret ?_ | refine inb_ret ?_))
        exact ⟨hlt, by simp [w1, exV], fun k h hk => by
          rcases Nat.lt_or_ge k i with h1 | h1
          · exact hI k h h1
          · have : k = i := by omega
            subst this
            exact ⟨c1, Classical.not_not.1 fun hn => c2 (e2.2 hn)⟩⟩
    · rw [decide_eq_false c1] at v1
      have hf : B = false := by
        rw [← hB]
        cases hc : apB l w with
        | false => rfl
        | true => exact absurd (apB_iff.1 hc i hlt).1 c1
      subst hf
      by_cases c2 : ∃ y ∈ l.take i, meetP l[i] y
      · rw [decide_eq_true c2] at v2
        (repeat (first
    | (apply is_ok; (case hw => simp [g1, g2, g3, g4, g5, hlt, v1, v2, exV]); (case he => simp [g1, g2, g3, g4, g5, hlt, v1, v2, exV]; exact is_rfl))
    | (apply op_no; (case hw => simp [g1, g2, g3, g4, g5, hlt, v1, v2, exV]))
    | refine op_nil ?_ | refine next_normal ?_ | refine go_seq ?_ | refine go_region ?_ | refine go_skip ?_ | refine go_block ?_ | refine inb_normal ?_
    | (apply go_yes; (case hc => simp [g1, g2, g3, g4, g5, hlt, v1, v2, exV])) | (apply go_no; (case hc => simp [g1, g2, g3, g4, g5, hlt, v1, v2, exV]))
    | refine go_exit ?_ | refine next_exit ?_ | refine inb_here ?_ | refine inb_past (by decide) ?_ | refine go_ret ?_ | refine next_ret ?_ | refine inb_ret ?_))
        (apply ends_ok; (case h1 => simp; exact is_rfl); (case h2 => simp; exact is_rfl))
        simp
      · rw [decide_eq_false c2] at v2
        (repeat (first
    | (apply is_ok; (case hw => simp [g1, g2, g3, g4, g5, hlt, v1, v2, exV]); (case he => simp [g1, g2, g3, g4, g5, hlt, v1, v2, exV]; exact is_rfl))
    | (apply op_no; (case hw => simp [g1, g2, g3, g4, g5, hlt, v1, v2, exV]))
    | refine op_nil ?_ | refine next_normal ?_ | refine go_seq ?_ | refine go_region ?_ | refine go_skip ?_ | refine go_block ?_ | refine inb_normal ?_
    | (apply go_yes; (case hc => simp [g1, g2, g3, g4, g5, hlt, v1, v2, exV])) | (apply go_no; (case hc => simp [g1, g2, g3, g4, g5, hlt, v1, v2, exV]))
    | refine go_exit ?_ | refine next_exit ?_ | refine inb_here ?_ | refine inb_past (by decide) ?_ | refine go_ret ?_ | refine next_ret ?_ | refine inb_ret ?_))
        (apply ends_ok; (case h1 => simp; exact is_rfl); (case h2 => simp; exact is_rfl))
        simp
  · have g1 : ¬ (i : Int) < l.length := by omega
    have hf : B = true := by rw [← hB, apB_iff]; exact fun k h => hI k h (by omega)
    subst hf
    (repeat (first
    | (apply is_ok; (case hw => simp [g1]); (case he => simp [g1]; exact is_rfl))
    | (apply op_no; (case hw => simp [g1]))
    | refine op_nil ?_ | refine next_normal ?_ | refine go_seq ?_ | refine go_region ?_ | refine go_skip ?_ | refine go_block ?_ | refine inb_normal ?_
    | (apply go_yes; (case hc => simp [g1])) | (apply go_no; (case hc => simp [g1]))
    | refine go_exit ?_ | refine next_exit ?_ | refine inb_here ?_ | refine inb_past (by decide) ?_ | refine go_ret ?_ | refine next_ret ?_ | refine inb_ret ?_))
    (apply ends_ok; (case h1 => simp; exact is_rfl); (case h2 => simp; exact is_rfl))
    simp

theorem placed_eq (l : List Ex) (hl : l.length ≤ 1000) (hb : ∀ y ∈ l, UpP y) (w : Ex) (hw : BigP w) : bodyW DC 16 [.sl (l.map exV), .agg [.int .i64 w.1, .int .i64 w.2]] [] = some (.bool (apB l w), []) := by
  generalize hB : apB l w = B
  (refine gives_iff ?_; refine go_func Tryz.f16 rfl rfl (by simp [Tryz.f16]) ?_; dsimp only [codeL, Tryz.f16, scL, sopsL, guardL, dstAt, loopKey])
  (repeat (first
    | (apply is_ok; (case hw => simp); (case he => simp; exact is_rfl))
    | (apply op_no; (case hw => simp))
    | refine op_nil ?_ | refine next_normal ?_ | refine go_seq ?_ | refine go_region ?_ | refine go_skip ?_ | refine go_block ?_ | refine inb_normal ?_
    | (apply go_yes; (case hc => simp)) | (apply go_no; (case hc => simp))
    | refine go_exit ?_ | refine next_exit ?_ | refine inb_here ?_ | refine inb_past (by decide) ?_ | refine go_ret ?_ | refine next_ret ?_ | refine inb_ret ?_))
  refine go_count l.length (fun i => [(0, .sl (l.map exV)), (3, .ptr 0 1 0 0), (5, .int .i64 i)]) (fun _ => [.box (.agg [.int .i64 w.1, .int .i64 w.2])]) (fun i => ∀ k (h : k < l.length), k < i → inP w l[k] ∧ ∀ j (hj : j < k), ¬ meetP l[k] (l[j]'(by omega))) (by simp) (fun j _ h => absurd h (Nat.not_lt_zero j)) fun i hi hI => ?_
  by_cases hlt : i < l.length
  · have g1 : (i : Int) < l.length := by omega
    have g2 : l[i]? = some l[i] := List.getElem?_eq_getElem hlt
    have w1 : IntKind.i64.wrap ((i : Int) + 1) = (i : Int) + 1 := wrap_id (by omega) (by omega)
    have hx := hb _ (List.getElem_mem hlt)
    have v1 := Within_eq l[i] w hx hw
    change bodyW DC _ _ _ = some (.bool (decide (inP w l[i])), []) at v1
    by_cases c1 : inP w l[i]
    · rw [decide_eq_true c1] at v1
      (repeat (first
    | (apply is_ok; (case hw => simp [g1, g2, hlt, v1, w1, exV]); (case he => simp [g1, g2, hlt, v1, w1, exV]; exact is_rfl))
    | (apply op_no; (case hw => simp [g1, g2, hlt, v1, w1, exV]))
    | refine op_nil ?_ | refine next_normal ?_ | refine go_seq ?_ | refine go_region ?_ | refine go_skip ?_ | refine go_block ?_ | refine inb_normal ?_
    | (apply go_yes; (case hc => simp [g1, g2, hlt, v1, w1, exV])) | (apply go_no; (case hc => simp [g1, g2, hlt, v1, w1, exV]))
    | refine go_exit ?_ | refine next_exit ?_ | refine inb_here ?_ | refine inb_past (by decide) ?_ | refine go_ret ?_ | refine next_ret ?_ | refine inb_ret ?_))
      refine go_count i (fun j => [(0, .sl (l.map exV)), (3, .ptr 0 1 0 0), (5, .int .i64 i), (6, .int .i64 j)]) (fun _ => [.box (.agg [.int .i64 w.1, .int .i64 w.2])]) (fun j => ∀ k (hk : k < i), k < j → ¬ meetP l[i] (l[k]'(by omega))) (by simp [exV]) (fun j _ h => absurd h (Nat.not_lt_zero j)) fun j hj hJ => ?_
      by_cases hlj : j < i
      · have g3 : (j : Int) < i := by omega
        have hlj' : j < l.length := by omega
        have g4 : l[j]? = some l[j] := List.getElem?_eq_getElem hlj'
        have w2 : IntKind.i64.wrap ((j : Int) + 1) = (j : Int) + 1 := wrap_id (by omega) (by omega)
        have v2 := Meet_eq l[i] l[j] hx.big (hb _ (List.getElem_mem hlj')).big
        by_cases c2 : meetP l[i] l[j]
        · rw [decide_eq_true c2] at v2
          have hf : B = false := by
            rw [← hB]
            cases hc : apB l w with
            | false => rfl
            | true => exact absurd c2 ((apB_iff.1 hc i hlt).2 j hlj)
          subst hf
          (repeat (first
    | (apply is_ok; (case hw => simp [g1, g2, g3, g4, hlj, hlj', hlt, v2, exV]); (case he => simp [g1, g2, g3, g4, hlj, hlj', hlt, v2, exV]; exact is_rfl))
    | (apply op_no; (case hw => simp [g1, g2, g3, g4, hlj, hlj', hlt, v2, exV]))
    | refine op_nil ?_ | refine next_normal ?_ | refine go_seq ?_ | refine go_region ?_ | refine go_skip ?_ | refine go_block ?_ | refine inb_normal ?_
    | (apply go_yes; (case hc => simp [g1, g2, g3, g4, hlj, hlj', hlt, v2, exV])) | (apply go_no; (case hc => simp [g1, g2, g3, g4, hlj, hlj', hlt, v2, exV]))
    | refine go_exit ?_ | refine next_exit ?_ | refine inb_here ?_ | refine inb_past (by decide) ?_ | refine go_ret ?_ | refine next_ret ?_ | refine inb_ret ?_))
          (apply ends_ok; (case h1 => simp; exact is_rfl); (case h2 => simp; exact is_rfl))
          simp
        · rw [decide_eq_false c2] at v2
          (repeat (first
    | (apply is_ok; (case hw => simp [g1, g2, g3, g4, hlj, hlj', hlt, v2, w2, exV]); (case he => simp [g1, g2, g3, g4, hlj, hlj', hlt, v2, w2, exV]; exact is_rfl))
    | (apply op_no; (case hw => simp [g1, g2, g3, g4, hlj, hlj', hlt, v2, w2, exV]))
    | refine op_nil ?_ | refine next_normal ?_ | refine go_seq ?_ | refine go_region ?_ | refine go_skip ?_ | refine go_block ?_ | refine inb_normal ?_
    | (apply go_yes; (case hc => simp [g1, g2, g3, g4, hlj, hlj', hlt, v2, w2, exV])) | (apply go_no; (case hc => simp [g1, g2, g3, g4, hlj, hlj', hlt, v2, w2, exV]))
    | refine go_exit ?_ | refine next_exit ?_ | refine inb_here ?_ | refine inb_past (by decide) ?_ | refine go_ret ?_ | refine next_ret ?_ | refine inb_ret ?_))
          exact ⟨hlj, by simp [w2, exV], fun k h hk => by
            rcases Nat.lt_or_ge k j with h1 | h1
            · exact hJ k h h1
            · have : k = j := by omega
              subst this
              exact c2⟩
      · have : j = i := by omega
        subst this
        (repeat (first
    | (apply is_ok; (case hw => simp [w1]); (case he => simp [w1]; exact is_rfl))
    | (apply op_no; (case hw => simp [w1]))
    | refine op_nil ?_ | refine next_normal ?_ | refine go_seq ?_ | refine go_region ?_ | refine go_skip ?_ | refine go_block ?_ | refine inb_normal ?_
    | (apply go_yes; (case hc => simp [w1])) | (apply go_no; (case hc => simp [w1]))
    | refine go_exit ?_ | refine next_exit ?_ | refine inb_here ?_ | refine inb_past (by decide) ?_ | refine go_ret ?_ | refine next_ret ?_ | refine inb_ret ?_))
        exact ⟨hlt, by simp [w1, exV], fun k h hk => by
          rcases Nat.lt_or_ge k j with h1 | h1
          · exact hI k h h1
          · have : k = j := by omega
            subst this
            exact ⟨c1, fun m hm => hJ m hm hm⟩⟩
    · rw [decide_eq_false c1] at v1
      have hf : B = false := by
        rw [← hB]
        cases hc : apB l w with
        | false => rfl
        | true => exact absurd (apB_iff.1 hc i hlt).1 c1
      subst hf
      (repeat (first
    | (apply is_ok; (case hw => simp [g1, g2, hlt, v1, exV]); (case he => simp [g1, g2, hlt, v1, exV]; exact is_rfl))
    | (apply op_no; (case hw => simp [g1, g2, hlt, v1, exV]))
    | refine op_nil ?_ | refine next_normal ?_ | refine go_seq ?_ | refine go_region ?_ | refine go_skip ?_ | refine go_block ?_ | refine inb_normal ?_
    | (apply go_yes; (case hc => simp [g1, g2, hlt, v1, exV])) | (apply go_no; (case hc => simp [g1, g2, hlt, v1, exV]))
    | refine go_exit ?_ | refine next_exit ?_ | refine inb_here ?_ | refine inb_past (by decide) ?_ | refine go_ret ?_ | refine next_ret ?_ | refine inb_ret ?_))
      (apply ends_ok; (case h1 => simp; exact is_rfl); (case h2 => simp; exact is_rfl))
      simp
  · have g1 : ¬ (i : Int) < l.length := by omega
    have hf : B = true := by rw [← hB, apB_iff]; exact fun k h => hI k h (by omega)
    subst hf
    (repeat (first
    | (apply is_ok; (case hw => simp [g1]); (case he => simp [g1]; exact is_rfl))
    | (apply op_no; (case hw => simp [g1]))
    | refine op_nil ?_ | refine next_normal ?_ | refine go_seq ?_ | refine go_region ?_ | refine go_skip ?_ | refine go_block ?_ | refine inb_normal ?_
    | (apply go_yes; (case hc => simp [g1])) | (apply go_no; (case hc => simp [g1]))
    | refine go_exit ?_ | refine next_exit ?_ | refine inb_here ?_ | refine inb_past (by decide) ?_ | refine go_ret ?_ | refine next_ret ?_ | refine inb_ret ?_))
    (apply ends_ok; (case h1 => simp; exact is_rfl); (case h2 => simp; exact is_rfl))
    simp

theorem eqL_ex (a b c d : Int) : eqL Tryz.prog 10000 57 [.int .i64 a, .int .i64 b] [.int .i64 c, .int .i64 d] = some ((a == c) && (b == d)) := by
  have s1 : Tryz.prog.stoodInHeld 57 = false := by kernel_rfl
  have o1 : okT Tryz.prog 3 = true := by kernel_rfl
  have z1 : sizeL Tryz.prog 3 = 1 := by kernel_rfl
  rw [show (10000 : Nat) = 9997 + 3 from rfl]
  generalize 9997 = n
  simp [eqL, eqFs, eqNs, s1, o1, z1, Tryz.underlying57, Tryz.underlying3]
theorem ex_neq (a b : Int) : binV Tryz.prog .neq 57 (.agg [.int .i64 a, .int .i64 b]) (.agg [.int .i64 a, .int .i64 b]) = some (.bool false) := by
  have h := (binV_agg (P := Tryz.prog) (t := 57) (d := 10000) rfl (by kernel_rfl) (by kernel_rfl) rfl rfl (eqL_ex a b a b)).2
  simpa using h
theorem swSmall_eq (p : Ex) : bodyW DC 73 [.agg [.int .i64 p.1, .int .i64 p.2]] [] = some (.bool (decide (UsuP p)), []) := by
  unfold UsuP
  by_cases h1 : 0 ≤ p.1 <;> by_cases h2 : p.1 ≤ 1048576 <;> by_cases h3 : 0 ≤ p.2 <;>
  · (refine gives_iff ?_; refine go_func Tryz.f73 rfl rfl (by simp [Tryz.f73]) ?_; dsimp only [codeL, Tryz.f73, scL, sopsL, guardL, dstAt, loopKey])
    (repeat (first
    | (apply is_ok; (case hw => simp [h1, h2, h3]); (case he => simp [h1, h2, h3]; exact is_rfl))
    | (apply op_no; (case hw => simp [h1, h2, h3]))
    | refine op_nil ?_ | refine next_normal ?_ | refine go_seq ?_ | refine go_region ?_ | refine go_skip ?_ | refine go_block ?_ | refine inb_normal ?_
    | (apply go_yes; (case hc => simp [h1, h2, h3])) | (apply go_no; (case hc => simp [h1, h2, h3]))
    | refine go_exit ?_ | refine next_exit ?_ | refine inb_here ?_ | refine inb_past (by decide) ?_ | refine go_ret ?_ | refine next_ret ?_ | refine inb_ret ?_))
    (apply ends_ok; (case h1 => simp; exact is_rfl); (case h2 => simp; exact is_rfl))
    simp [h1, h2, h3]
end Go.Abs

namespace Go.Abs
open Go.Proofs
set_option maxRecDepth 100000
set_option linter.unusedSimpArgs false
set_option linter.unusedVariables false

/-- Are the extents of a system right? -/
def rightP (s : Sys) : Prop := UsuP s.co ∧ UsuP s.sw ∧ ¬ (0 < s.co.2 ∧ (s.mem.length : Int) < (s.co.1 + s.co.2) * 32) ∧ ¬ (0 < s.sw.2 ∧ (s.S.length : Int) < s.sw.1 + s.sw.2) ∧ (∀ p ∈ s.ps, hasP p → UsuP (p.base, p.blk))
noncomputable def rightB (s : Sys) : Bool := @decide (rightP s) (Classical.propDecidable _) && apB (coreL s.ps) s.co && apB (swpL s.ps) s.sw
theorem rightB_no {s : Sys} (h : ¬ rightP s) : rightB s = false := by unfold rightB; simp [h]
theorem rightB_yes {s : Sys} (h : rightP s) : rightB s = (apB (coreL s.ps) s.co && apB (swpL s.ps) s.sw) := by unfold rightB; simp [h]

theorem coreL_up {ps : List Pr} (h : ∀ p ∈ ps, hasP p → UsuP (p.base, p.blk)) : ∀ y ∈ coreL ps, UpP y := by
  intro y hy
  obtain ⟨p, hp, rfl⟩ := List.mem_map.1 hy
  obtain ⟨h1, h2⟩ := List.mem_filter.1 hp
  have h3 : hasP p := by
    rw [Bool.and_eq_true] at h2
    exact of_decide_eq_true h2.1
  have h4 := h p h1 h3
  have h5 := h3.2
  exact ⟨h4.1, by have := h4.2.1; dsimp only at this ⊢; omega, by dsimp only; omega, by have := h4.2.2.2; dsimp only at this ⊢; omega⟩
theorem secN_bound {n : Int} (h1 : 1 ≤ n) (h2 : n ≤ 1048576) : 0 < secN n ∧ secN n ≤ 1048576 ∧ secN n = n / 2 + n % 2 := by
  unfold secN
  rw [if_neg (by omega)]
  omega
theorem swpL_up {ps : List Pr} (h : ∀ p ∈ ps, hasP p → UsuP (p.base, p.blk)) : ∀ y ∈ swpL ps, UpP y := by
  intro y hy
  obtain ⟨p, hp, rfl⟩ := List.mem_map.1 hy
  obtain ⟨h1, h2⟩ := List.mem_filter.1 hp
  have h3 : hasP p := by
    rw [Bool.and_eq_true] at h2
    exact of_decide_eq_true h2.1
  have h4 := h p h1 h3
  have h5 := h3.2
  have h6 := secN_bound h5 h4.2.2.2
  exact ⟨h4.1, by have := h4.2.1; dsimp only at this ⊢; omega, h6.1, by dsimp only; omega⟩
theorem UsuP.big {a : Ex} (h : UsuP a) : BigP a := ⟨h.1, by have := h.2.1; omega, h.2.2.1, by have := h.2.2.2; omega⟩

set_option maxHeartbeats 4000000 in
theorem swRight_eq (s : Sys) (hm : s.mem.length ≤ 1000000) (hS : s.S.length ≤ 1000000) (hk : ∀ p ∈ s.ps, -9223372036854775808 ≤ p.blk ∧ p.blk ≤ 9223372036854775807) : bodyW DC 44 [.agg s.cells] [] = some (.bool (rightB s), []) := by
  have hps := s.hps
  have v1 := swSmall_eq s.co
  have v2 := swSmall_eq s.sw
  generalize hB : rightB s = B
  by_cases c1 : UsuP s.co
  case neg =>
    obtain rfl : B = false := by rw [← hB]; exact rightB_no fun h => c1 h.1
    rw [decide_eq_false c1] at v1
    by_cases c2 : UsuP s.sw
    · rw [decide_eq_true c2] at v2
      (refine gives_iff ?_; refine go_func Tryz.f44 rfl rfl (by simp [Tryz.f44]) ?_; dsimp only [codeL, Tryz.f44, scL, sopsL, guardL, dstAt, loopKey])
      (repeat (first
    | (apply is_ok; (case hw => simp [v1, v2, exV]); (case he => simp [v1, v2, exV]; exact is_rfl))
    | (apply op_no; (case hw => simp [v1, v2, exV]))
    | refine op_nil ?_ | refine next_normal ?_ | refine go_seq ?_ | refine go_region ?_ | refine go_skip ?_ | refine go_block ?_ | refine inb_normal ?_
    | (apply go_yes; (case hc => simp [v1, v2, exV])) | (apply go_no; (case hc => simp [v1, v2, exV]))
    | refine go_exit ?_ | refine next_exit ?_ | refine inb_here ?_ | refine inb_past (by decide) ?_ | refine go_ret ?_ | refine next_ret ?_ | refine inb_ret ?_))
      (apply ends_ok; (case h1 => simp; exact is_rfl); (case h2 => simp; exact is_rfl))
      simp
    · rw [decide_eq_false c2] at v2
      (refine gives_iff ?_; refine go_func Tryz.f44 rfl rfl (by simp [Tryz.f44]) ?_; dsimp only [codeL, Tryz.f44, scL, sopsL, guardL, dstAt, loopKey])
      (repeat (first
    | (apply is_ok; (case hw => simp [v1, v2, exV]); (case he => simp [v1, v2, exV]; exact is_rfl))
    | (apply op_no; (case hw => simp [v1, v2, exV]))
    | refine op_nil ?_ | refine next_normal ?_ | refine go_seq ?_ | refine go_region ?_ | refine go_skip ?_ | refine go_block ?_ | refine inb_normal ?_
    | (apply go_yes; (case hc => simp [v1, v2, exV])) | (apply go_no; (case hc => simp [v1, v2, exV]))
    | refine go_exit ?_ | refine next_exit ?_ | refine inb_here ?_ | refine inb_past (by decide) ?_ | refine go_ret ?_ | refine next_ret ?_ | refine inb_ret ?_))
      (apply ends_ok; (case h1 => simp; exact is_rfl); (case h2 => simp; exact is_rfl))
      simp
  rw [decide_eq_true c1] at v1
  by_cases c2 : UsuP s.sw
  case neg =>
    obtain rfl : B = false := by rw [← hB]; exact rightB_no fun h => c2 h.2.1
    rw [decide_eq_false c2] at v2
    (refine gives_iff ?_; refine go_func Tryz.f44 rfl rfl (by simp [Tryz.f44]) ?_; dsimp only [codeL, Tryz.f44, scL, sopsL, guardL, dstAt, loopKey])
    (repeat (first
    | (apply is_ok; (case hw => simp [v1, v2, exV]); (case he => simp [v1, v2, exV]; exact is_rfl))
    | (apply op_no; (case hw => simp [v1, v2, exV]))
    | refine op_nil ?_ | refine next_normal ?_ | refine go_seq ?_ | refine go_region ?_ | refine go_skip ?_ | refine go_block ?_ | refine inb_normal ?_
    | (apply go_yes; (case hc => simp [v1, v2, exV])) | (apply go_no; (case hc => simp [v1, v2, exV]))
    | refine go_exit ?_ | refine next_exit ?_ | refine inb_here ?_ | refine inb_past (by decide) ?_ | refine go_ret ?_ | refine next_ret ?_ | refine inb_ret ?_))
    (apply ends_ok; (case h1 => simp; exact is_rfl); (case h2 => simp; exact is_rfl))
    simp
  rw [decide_eq_true c2] at v2
  have u1 := c1.1
  have u2 := c1.2.1
  have u3 := c1.2.2.1
  have u4 := c1.2.2.2
  have u5 := c2.1
  have u6 := c2.2.1
  have u7 := c2.2.2.1
  have u8 := c2.2.2.2
  have v3 := end_eq s.co c1.big
  have v4 := end_eq s.sw c2.big
  have w1 : IntKind.i64.wrap ((s.co.1 + s.co.2) * 64) = (s.co.1 + s.co.2) * 64 := wrap_id (by omega) (by omega)
  have w2 : IntKind.i64.wrap (2 * (s.mem.length : Int)) = 2 * (s.mem.length : Int) := wrap_id (by omega) (by omega)
  by_cases c3 : 0 < s.co.2 ∧ (s.mem.length : Int) < (s.co.1 + s.co.2) * 32
  · obtain rfl : B = false := by rw [← hB]; exact rightB_no fun h => h.2.2.1 c3
    obtain ⟨c4, c5⟩ := c3
    have c6 : 2 * (s.mem.length : Int) < (s.co.1 + s.co.2) * 64 := by omega
    (refine gives_iff ?_; refine go_func Tryz.f44 rfl rfl (by simp [Tryz.f44]) ?_; dsimp only [codeL, Tryz.f44, scL, sopsL, guardL, dstAt, loopKey])
    (repeat (first
    | (apply is_ok; (case hw => simp [v1, v2, v3, v4, exV, w1, w2, c4, c6]); (case he => simp [v1, v2, v3, v4, exV, w1, w2, c4, c6]; exact is_rfl))
    | (apply op_no; (case hw => simp [v1, v2, v3, v4, exV, w1, w2, c4, c6]))
    | refine op_nil ?_ | refine next_normal ?_ | refine go_seq ?_ | refine go_region ?_ | refine go_skip ?_ | refine go_block ?_ | refine inb_normal ?_
    | (apply go_yes; (case hc => simp [v1, v2, v3, v4, exV, w1, w2, c4, c6])) | (apply go_no; (case hc => simp [v1, v2, v3, v4, exV, w1, w2, c4, c6]))
    | refine go_exit ?_ | refine next_exit ?_ | refine inb_here ?_ | refine inb_past (by decide) ?_ | refine go_ret ?_ | refine next_ret ?_ | refine inb_ret ?_))
    (apply ends_ok; (case h1 => simp; exact is_rfl); (case h2 => simp; exact is_rfl))
    simp
  by_cases c7 : 0 < s.sw.2 ∧ (s.S.length : Int) < s.sw.1 + s.sw.2
  · obtain rfl : B = false := by rw [← hB]; exact rightB_no fun h => h.2.2.2.1 c7
    obtain ⟨c8, c9⟩ := c7
    by_cases c4 : 0 < s.co.2
    · have c6 : ¬ 2 * (s.mem.length : Int) < (s.co.1 + s.co.2) * 64 := by have := fun h => c3 ⟨c4, h⟩; omega
      (refine gives_iff ?_; refine go_func Tryz.f44 rfl rfl (by simp [Tryz.f44]) ?_; dsimp only [codeL, Tryz.f44, scL, sopsL, guardL, dstAt, loopKey])
      (repeat (first
    | (apply is_ok; (case hw => simp [v1, v2, v3, v4, exV, w1, w2, c4, c6, c8, c9]); (case he => simp [v1, v2, v3, v4, exV, w1, w2, c4, c6, c8, c9]; exact is_rfl))
    | (apply op_no; (case hw => simp [v1, v2, v3, v4, exV, w1, w2, c4, c6, c8, c9]))
    | refine op_nil ?_ | refine next_normal ?_ | refine go_seq ?_ | refine go_region ?_ | refine go_skip ?_ | refine go_block ?_ | refine inb_normal ?_
    | (apply go_yes; (case hc => simp [v1, v2, v3, v4, exV, w1, w2, c4, c6, c8, c9])) | (apply go_no; (case hc => simp [v1, v2, v3, v4, exV, w1, w2, c4, c6, c8, c9]))
    | refine go_exit ?_ | refine next_exit ?_ | refine inb_here ?_ | refine inb_past (by decide) ?_ | refine go_ret ?_ | refine next_ret ?_ | refine inb_ret ?_))
      (apply ends_ok; (case h1 => simp; exact is_rfl); (case h2 => simp; exact is_rfl))
      simp
    · (refine gives_iff ?_; refine go_func Tryz.f44 rfl rfl (by simp [Tryz.f44]) ?_; dsimp only [codeL, Tryz.f44, scL, sopsL, guardL, dstAt, loopKey])
      (repeat (first
    | (apply is_ok; (case hw => simp [v1, v2, v3, v4, exV, w1, w2, c4, c8, c9]); (case he => simp [v1, v2, v3, v4, exV, w1, w2, c4, c8, c9]; exact is_rfl))
    | (apply op_no; (case hw => simp [v1, v2, v3, v4, exV, w1, w2, c4, c8, c9]))
    | refine op_nil ?_ | refine next_normal ?_ | refine go_seq ?_ | refine go_region ?_ | refine go_skip ?_ | refine go_block ?_ | refine inb_normal ?_
    | (apply go_yes; (case hc => simp [v1, v2, v3, v4, exV, w1, w2, c4, c8, c9])) | (apply go_no; (case hc => simp [v1, v2, v3, v4, exV, w1, w2, c4, c8, c9]))
    | refine go_exit ?_ | refine next_exit ?_ | refine inb_here ?_ | refine inb_past (by decide) ?_ | refine go_ret ?_ | refine next_ret ?_ | refine inb_ret ?_))
      (apply ends_ok; (case h1 => simp; exact is_rfl); (case h2 => simp; exact is_rfl))
      simp
  have c5 : 0 < s.co.2 → ¬ 2 * (s.mem.length : Int) < (s.co.1 + s.co.2) * 64 := fun h1 h2 => c3 ⟨h1, by omega⟩
  have c9 : 0 < s.sw.2 → ¬ (s.S.length : Int) < s.sw.1 + s.sw.2 := fun h1 h2 => c7 ⟨h1, h2⟩
  have z1 := Core_eq s
  have z2 := Swapped_eq s hk
  by_cases c4 : 0 < s.co.2 <;> by_cases c8 : 0 < s.sw.2 <;>
  · (refine gives_iff ?_; refine go_func Tryz.f44 rfl rfl (by simp [Tryz.f44]) ?_; dsimp only [codeL, Tryz.f44, scL, sopsL, guardL, dstAt, loopKey])
    (repeat (first
    | (apply is_ok; (case hw => simp [v1, v2, v3, v4, exV, w1, w2, c4, c5, c8, c9]); (case he => simp [v1, v2, v3, v4, exV, w1, w2, c4, c5, c8, c9]; exact is_rfl))
    | (apply op_no; (case hw => simp [v1, v2, v3, v4, exV, w1, w2, c4, c5, c8, c9]))
    | refine op_nil ?_ | refine next_normal ?_ | refine go_seq ?_ | refine go_region ?_ | refine go_skip ?_ | refine go_block ?_ | refine inb_normal ?_
    | (apply go_yes; (case hc => simp [v1, v2, v3, v4, exV, w1, w2, c4, c5, c8, c9])) | (apply go_no; (case hc => simp [v1, v2, v3, v4, exV, w1, w2, c4, c5, c8, c9]))
    | refine go_exit ?_ | refine next_exit ?_ | refine inb_here ?_ | refine inb_past (by decide) ?_ | refine go_ret ?_ | refine next_ret ?_ | refine inb_ret ?_))
    refine go_count 8 (fun i => [(1, .ptr 0 1 0 0), (50, .agg (prsC s.ps)), (51, .int .i64 i)]) (fun i => [.box (.agg s.cells)]) (fun i => ∀ k (h : k < s.ps.length), k < i → hasP s.ps[k] → UsuP (s.ps[k].base, s.ps[k].blk)) (by simp) (fun j _ h => absurd h (Nat.not_lt_zero j)) fun i hi hI => ?_
    by_cases hlt : i < 8
    · have g1 : (i : Int) < 8 := by omega
      have g0 : i < s.ps.length := by omega
      have g2 : s.ps[i]? = some s.ps[i] := List.getElem?_eq_getElem g0
      have w3 : IntKind.i64.wrap ((i : Int) + 1) = (i : Int) + 1 := wrap_id (by omega) (by omega)
      have v5 := hasImage_eq s.ps[i]
      have v6 := swSmall_eq (s.ps[i].base, s.ps[i].blk)
      by_cases d1 : hasP s.ps[i]
      · rw [decide_eq_true d1] at v5
        by_cases d2 : UsuP (s.ps[i].base, s.ps[i].blk)
        · rw [decide_eq_true d2] at v6
          (repeat (first
    | (apply is_ok; (case hw => simp [g1, g2, hlt, v5, v6, w3]); (case he => simp [g1, g2, hlt, v5, v6, w3]; exact is_rfl))
    | (apply op_no; (case hw => simp [g1, g2, hlt, v5, v6, w3]))
    | refine op_nil ?_ | refine next_normal ?_ | refine go_seq ?_ | refine go_region ?_ | refine go_skip ?_ | refine go_block ?_ | refine inb_normal ?_
    | (apply go_yes; (case hc => simp [g1, g2, hlt, v5, v6, w3])) | (apply go_no; (case hc => simp [g1, g2, hlt, v5, v6, w3]))
    | refine go_exit ?_ | refine next_exit ?_ | refine inb_here ?_ | refine inb_past (by decide) ?_ | refine go_ret ?_ | refine next_ret ?_ | refine inb_ret ?_))
          exact ⟨hlt, by simp [w3], fun k h hk2 => by
            rcases Nat.lt_or_ge k i with h1 | h1
            · exact hI k h h1
            · have : k = i := by omega
              subst this
              exact fun _ => d2⟩
        · rw [decide_eq_false d2] at v6
          obtain rfl : B = false := by rw [← hB]; exact rightB_no fun h => d2 (h.2.2.2.2 _ (List.getElem_mem g0) d1)
          (repeat (first
    | (apply is_ok; (case hw => simp [g1, g2, hlt, v5, v6, w3]); (case he => simp [g1, g2, hlt, v5, v6, w3]; exact is_rfl))
    | (apply op_no; (case hw => simp [g1, g2, hlt, v5, v6, w3]))
    | refine op_nil ?_ | refine next_normal ?_ | refine go_seq ?_ | refine go_region ?_ | refine go_skip ?_ | refine go_block ?_ | refine inb_normal ?_
    | (apply go_yes; (case hc => simp [g1, g2, hlt, v5, v6, w3])) | (apply go_no; (case hc => simp [g1, g2, hlt, v5, v6, w3]))
    | refine go_exit ?_ | refine next_exit ?_ | refine inb_here ?_ | refine inb_past (by decide) ?_ | refine go_ret ?_ | refine next_ret ?_ | refine inb_ret ?_))
          (apply ends_ok; (case h1 => simp; exact is_rfl); (case h2 => simp; exact is_rfl))
          simp
      · rw [decide_eq_false d1] at v5
        (repeat (first
    | (apply is_ok; (case hw => simp [g1, g2, hlt, v5, v6, w3]); (case he => simp [g1, g2, hlt, v5, v6, w3]; exact is_rfl))
    | (apply op_no; (case hw => simp [g1, g2, hlt, v5, v6, w3]))
    | refine op_nil ?_ | refine next_normal ?_ | refine go_seq ?_ | refine go_region ?_ | refine go_skip ?_ | refine go_block ?_ | refine inb_normal ?_
    | (apply go_yes; (case hc => simp [g1, g2, hlt, v5, v6, w3])) | (apply go_no; (case hc => simp [g1, g2, hlt, v5, v6, w3]))
    | refine go_exit ?_ | refine next_exit ?_ | refine inb_here ?_ | refine inb_past (by decide) ?_ | refine go_ret ?_ | refine next_ret ?_ | refine inb_ret ?_))
        exact ⟨hlt, by simp [w3], fun k h hk2 => by
          rcases Nat.lt_or_ge k i with h1 | h1
          · exact hI k h h1
          · have : k = i := by omega
            subst this
            exact fun h => absurd h d1⟩
    · have : i = 8 := by omega
      subst this
      have hu : ∀ p ∈ s.ps, hasP p → UsuP (p.base, p.blk) := fun p hp => by
        obtain ⟨k, hk', rfl⟩ := List.mem_iff_getElem.1 hp
        exact hI k hk' (by omega)
      rw [rightB_yes ⟨c1, c2, c3, c7, hu⟩] at hB
      have l1 := coreL_len s.ps
      have l2 := swpL_len s.ps
      have v7 := apart_eq (coreL s.ps) (by omega) (coreL_up hu) s.co c1.big
      have v8 := apart_eq (swpL s.ps) (by omega) (swpL_up hu) s.sw c2.big
      generalize apB (swpL s.ps) s.sw = b2 at v8 hB
      cases b1 : apB (coreL s.ps) s.co <;>
      · rw [b1] at v7 hB
        subst hB
        (repeat (first
    | (apply is_ok; (case hw => simp [z1, z2, v7, v8, exV]); (case he => simp [z1, z2, v7, v8, exV]; exact is_rfl))
    | (apply op_no; (case hw => simp [z1, z2, v7, v8, exV]))
    | refine op_nil ?_ | refine next_normal ?_ | refine go_seq ?_ | refine go_region ?_ | refine go_skip ?_ | refine go_block ?_ | refine inb_normal ?_
    | (apply go_yes; (case hc => simp [z1, z2, v7, v8, exV])) | (apply go_no; (case hc => simp [z1, z2, v7, v8, exV]))
    | refine go_exit ?_ | refine next_exit ?_ | refine inb_here ?_ | refine inb_past (by decide) ?_ | refine go_ret ?_ | refine next_ret ?_ | refine inb_ret ?_))
        (apply ends_ok; (case h1 => simp; exact is_rfl); (case h2 => simp; exact is_rfl))
        simp
set_option maxHeartbeats 4000000 in
theorem swRightR_eq (s : Sys) (hm : s.mem.length ≤ 1000000) (hS : s.S.length ≤ 1000000) (hk : ∀ p ∈ s.ps, -9223372036854775808 ≤ p.blk ∧ p.blk ≤ 9223372036854775807) : bodyW DC 5 [.agg s.cells] [] = some (.bool (rightB s), []) := by
  have hps := s.hps
  have v1 := Usual_eq s.co
  have v2 := Usual_eq s.sw
  generalize hB : rightB s = B
  by_cases c1 : UsuP s.co
  case neg =>
    obtain rfl : B = false := by rw [← hB]; exact rightB_no fun h => c1 h.1
    rw [decide_eq_false c1] at v1
    by_cases c2 : UsuP s.sw
    · rw [decide_eq_true c2] at v2
      (refine gives_iff ?_; refine go_func Tryz.f5 rfl rfl (by simp [Tryz.f5]) ?_; dsimp only [codeL, Tryz.f5, scL, sopsL, guardL, dstAt, loopKey])
      (repeat (first
    | (apply is_ok; (case hw => simp [v1, v2, exV]); (case he => simp [v1, v2, exV]; exact is_rfl))
    | (apply op_no; (case hw => simp [v1, v2, exV]))
    | refine op_nil ?_ | refine next_normal ?_ | refine go_seq ?_ | refine go_region ?_ | refine go_skip ?_ | refine go_block ?_ | refine inb_normal ?_
    | (apply go_yes; (case hc => simp [v1, v2, exV])) | (apply go_no; (case hc => simp [v1, v2, exV]))
    | refine go_exit ?_ | refine next_exit ?_ | refine inb_here ?_ | refine inb_past (by decide) ?_ | refine go_ret ?_ | refine next_ret ?_ | refine inb_ret ?_))
      (apply ends_ok; (case h1 => simp; exact is_rfl); (case h2 => simp; exact is_rfl))
      simp
    · rw [decide_eq_false c2] at v2
      (refine gives_iff ?_; refine go_func Tryz.f5 rfl rfl (by simp [Tryz.f5]) ?_; dsimp only [codeL, Tryz.f5, scL, sopsL, guardL, dstAt, loopKey])
      (repeat (first
    | (apply is_ok; (case hw => simp [v1, v2, exV]); (case he => simp [v1, v2, exV]; exact is_rfl))
    | (apply op_no; (case hw => simp [v1, v2, exV]))
    | refine op_nil ?_ | refine next_normal ?_ | refine go_seq ?_ | refine go_region ?_ | refine go_skip ?_ | refine go_block ?_ | refine inb_normal ?_
    | (apply go_yes; (case hc => simp [v1, v2, exV])) | (apply go_no; (case hc => simp [v1, v2, exV]))
    | refine go_exit ?_ | refine next_exit ?_ | refine inb_here ?_ | refine inb_past (by decide) ?_ | refine go_ret ?_ | refine next_ret ?_ | refine inb_ret ?_))
      (apply ends_ok; (case h1 => simp; exact is_rfl); (case h2 => simp; exact is_rfl))
      simp
  rw [decide_eq_true c1] at v1
  by_cases c2 : UsuP s.sw
  case neg =>
    obtain rfl : B = false := by rw [← hB]; exact rightB_no fun h => c2 h.2.1
    rw [decide_eq_false c2] at v2
    (refine gives_iff ?_; refine go_func Tryz.f5 rfl rfl (by simp [Tryz.f5]) ?_; dsimp only [codeL, Tryz.f5, scL, sopsL, guardL, dstAt, loopKey])
    (repeat (first
    | (apply is_ok; (case hw => simp [v1, v2, exV]); (case he => simp [v1, v2, exV]; exact is_rfl))
    | (apply op_no; (case hw => simp [v1, v2, exV]))
    | refine op_nil ?_ | refine next_normal ?_ | refine go_seq ?_ | refine go_region ?_ | refine go_skip ?_ | refine go_block ?_ | refine inb_normal ?_
    | (apply go_yes; (case hc => simp [v1, v2, exV])) | (apply go_no; (case hc => simp [v1, v2, exV]))
    | refine go_exit ?_ | refine next_exit ?_ | refine inb_here ?_ | refine inb_past (by decide) ?_ | refine go_ret ?_ | refine next_ret ?_ | refine inb_ret ?_))
    (apply ends_ok; (case h1 => simp; exact is_rfl); (case h2 => simp; exact is_rfl))
    simp
  rw [decide_eq_true c2] at v2
  have u1 := c1.1
  have u2 := c1.2.1
  have u3 := c1.2.2.1
  have u4 := c1.2.2.2
  have u5 := c2.1
  have u6 := c2.2.1
  have u7 := c2.2.2.1
  have u8 := c2.2.2.2
  have v3 : IntKind.i64.wrap (s.co.1 + s.co.2) = s.co.1 + s.co.2 := wrap_id (by omega) (by omega)
  have v4 : IntKind.i64.wrap (s.sw.1 + s.sw.2) = s.sw.1 + s.sw.2 := wrap_id (by omega) (by omega)
  have w1 : IntKind.i64.wrap ((s.co.1 + s.co.2) * 32) = (s.co.1 + s.co.2) * 32 := wrap_id (by omega) (by omega)
  by_cases c3 : 0 < s.co.2 ∧ (s.mem.length : Int) < (s.co.1 + s.co.2) * 32
  · obtain rfl : B = false := by rw [← hB]; exact rightB_no fun h => h.2.2.1 c3
    obtain ⟨c4, c5⟩ := c3
    have c6 : (s.mem.length : Int) < (s.co.1 + s.co.2) * 32 := by omega
    (refine gives_iff ?_; refine go_func Tryz.f5 rfl rfl (by simp [Tryz.f5]) ?_; dsimp only [codeL, Tryz.f5, scL, sopsL, guardL, dstAt, loopKey])
    (repeat (first
    | (apply is_ok; (case hw => simp [v1, v2, v3, v4, exV, w1, c4, c6]); (case he => simp [v1, v2, v3, v4, exV, w1, c4, c6]; exact is_rfl))
    | (apply op_no; (case hw => simp [v1, v2, v3, v4, exV, w1, c4, c6]))
    | refine op_nil ?_ | refine next_normal ?_ | refine go_seq ?_ | refine go_region ?_ | refine go_skip ?_ | refine go_block ?_ | refine inb_normal ?_
    | (apply go_yes; (case hc => simp [v1, v2, v3, v4, exV, w1, c4, c6])) | (apply go_no; (case hc => simp [v1, v2, v3, v4, exV, w1, c4, c6]))
    | refine go_exit ?_ | refine next_exit ?_ | refine inb_here ?_ | refine inb_past (by decide) ?_ | refine go_ret ?_ | refine next_ret ?_ | refine inb_ret ?_))
    (apply ends_ok; (case h1 => simp; exact is_rfl); (case h2 => simp; exact is_rfl))
    simp
  by_cases c7 : 0 < s.sw.2 ∧ (s.S.length : Int) < s.sw.1 + s.sw.2
  · obtain rfl : B = false := by rw [← hB]; exact rightB_no fun h => h.2.2.2.1 c7
    obtain ⟨c8, c9⟩ := c7
    by_cases c4 : 0 < s.co.2
    · have c6 : ¬ (s.mem.length : Int) < (s.co.1 + s.co.2) * 32 := by have := fun h => c3 ⟨c4, h⟩; omega
      (refine gives_iff ?_; refine go_func Tryz.f5 rfl rfl (by simp [Tryz.f5]) ?_; dsimp only [codeL, Tryz.f5, scL, sopsL, guardL, dstAt, loopKey])
      (repeat (first
    | (apply is_ok; (case hw => simp [v1, v2, v3, v4, exV, w1, c4, c6, c8, c9]); (case he => simp [v1, v2, v3, v4, exV, w1, c4, c6, c8, c9]; exact is_rfl))
    | (apply op_no; (case hw => simp [v1, v2, v3, v4, exV, w1, c4, c6, c8, c9]))
    | refine op_nil ?_ | refine next_normal ?_ | refine go_seq ?_ | refine go_region ?_ | refine go_skip ?_ | refine go_block ?_ | refine inb_normal ?_
    | (apply go_yes; (case hc => simp [v1, v2, v3, v4, exV, w1, c4, c6, c8, c9])) | (apply go_no; (case hc => simp [v1, v2, v3, v4, exV, w1, c4, c6, c8, c9]))
    | refine go_exit ?_ | refine next_exit ?_ | refine inb_here ?_ | refine inb_past (by decide) ?_ | refine go_ret ?_ | refine next_ret ?_ | refine inb_ret ?_))
      (apply ends_ok; (case h1 => simp; exact is_rfl); (case h2 => simp; exact is_rfl))
      simp
    · (refine gives_iff ?_; refine go_func Tryz.f5 rfl rfl (by simp [Tryz.f5]) ?_; dsimp only [codeL, Tryz.f5, scL, sopsL, guardL, dstAt, loopKey])
      (repeat (first
    | (apply is_ok; (case hw => simp [v1, v2, v3, v4, exV, w1, c4, c8, c9]); (case he => simp [v1, v2, v3, v4, exV, w1, c4, c8, c9]; exact is_rfl))
    | (apply op_no; (case hw => simp [v1, v2, v3, v4, exV, w1, c4, c8, c9]))
    | refine op_nil ?_ | refine next_normal ?_ | refine go_seq ?_ | refine go_region ?_ | refine go_skip ?_ | refine go_block ?_ | refine inb_normal ?_
    | (apply go_yes; (case hc => simp [v1, v2, v3, v4, exV, w1, c4, c8, c9])) | (apply go_no; (case hc => simp [v1, v2, v3, v4, exV, w1, c4, c8, c9]))
    | refine go_exit ?_ | refine next_exit ?_ | refine inb_here ?_ | refine inb_past (by decide) ?_ | refine go_ret ?_ | refine next_ret ?_ | refine inb_ret ?_))
      (apply ends_ok; (case h1 => simp; exact is_rfl); (case h2 => simp; exact is_rfl))
      simp
  have c5 : 0 < s.co.2 → ¬ (s.mem.length : Int) < (s.co.1 + s.co.2) * 32 := fun h1 h2 => c3 ⟨h1, by omega⟩
  have c9 : 0 < s.sw.2 → ¬ (s.S.length : Int) < s.sw.1 + s.sw.2 := fun h1 h2 => c7 ⟨h1, h2⟩
  have z1 := CoreR_eq s
  have z2 := SwappedR_eq s hk
  by_cases c4 : 0 < s.co.2 <;> by_cases c8 : 0 < s.sw.2 <;>
  · (refine gives_iff ?_; refine go_func Tryz.f5 rfl rfl (by simp [Tryz.f5]) ?_; dsimp only [codeL, Tryz.f5, scL, sopsL, guardL, dstAt, loopKey])
    (repeat (first
    | (apply is_ok; (case hw => simp [v1, v2, v3, v4, exV, w1, c4, c5, c8, c9]); (case he => simp [v1, v2, v3, v4, exV, w1, c4, c5, c8, c9]; exact is_rfl))
    | (apply op_no; (case hw => simp [v1, v2, v3, v4, exV, w1, c4, c5, c8, c9]))
    | refine op_nil ?_ | refine next_normal ?_ | refine go_seq ?_ | refine go_region ?_ | refine go_skip ?_ | refine go_block ?_ | refine inb_normal ?_
    | (apply go_yes; (case hc => simp [v1, v2, v3, v4, exV, w1, c4, c5, c8, c9])) | (apply go_no; (case hc => simp [v1, v2, v3, v4, exV, w1, c4, c5, c8, c9]))
    | refine go_exit ?_ | refine next_exit ?_ | refine inb_here ?_ | refine inb_past (by decide) ?_ | refine go_ret ?_ | refine next_ret ?_ | refine inb_ret ?_))
    refine go_count 8 (fun i => [(1, .ptr 0 1 0 0), (3, .int .i64 i)]) (fun i => [.box (.agg s.cells)]) (fun i => ∀ k (h : k < s.ps.length), k < i → hasP s.ps[k] → UsuP (s.ps[k].base, s.ps[k].blk)) (by simp) (fun j _ h => absurd h (Nat.not_lt_zero j)) fun i hi hI => ?_
    by_cases hlt : i < 8
    · have g1 : (i : Int) < 8 := by omega
      have g0 : i < s.ps.length := by omega
      have g2 : s.ps[i]? = some s.ps[i] := List.getElem?_eq_getElem g0
      have w3 : IntKind.i64.wrap ((i : Int) + 1) = (i : Int) + 1 := wrap_id (by omega) (by omega)
      have v5 := hasR_eq s.ps[i]
      have v6 := Usual_eq (s.ps[i].base, s.ps[i].blk)
      by_cases d1 : hasP s.ps[i]
      · rw [decide_eq_true d1] at v5
        by_cases d2 : UsuP (s.ps[i].base, s.ps[i].blk)
        · rw [decide_eq_true d2] at v6
          (repeat (first
    | (apply is_ok; (case hw => simp [g1, g2, hlt, v5, v6, w3]); (case he => simp [g1, g2, hlt, v5, v6, w3]; exact is_rfl))
    | (apply op_no; (case hw => simp [g1, g2, hlt, v5, v6, w3]))
    | refine op_nil ?_ | refine next_normal ?_ | refine go_seq ?_ | refine go_region ?_ | refine go_skip ?_ | refine go_block ?_ | refine inb_normal ?_
    | (apply go_yes; (case hc => simp [g1, g2, hlt, v5, v6, w3])) | (apply go_no; (case hc => simp [g1, g2, hlt, v5, v6, w3]))
    | refine go_exit ?_ | refine next_exit ?_ | refine inb_here ?_ | refine inb_past (by decide) ?_ | refine go_ret ?_ | refine next_ret ?_ | refine inb_ret ?_))
          exact ⟨hlt, by simp [w3], fun k h hk2 => by
            rcases Nat.lt_or_ge k i with h1 | h1
            · exact hI k h h1
            · have : k = i := by omega
              subst this
              exact fun _ => d2⟩
        · rw [decide_eq_false d2] at v6
          obtain rfl : B = false := by rw [← hB]; exact rightB_no fun h => d2 (h.2.2.2.2 _ (List.getElem_mem g0) d1)
          (repeat (first
    | (apply is_ok; (case hw => simp [g1, g2, hlt, v5, v6, w3]); (case he => simp [g1, g2, hlt, v5, v6, w3]; exact is_rfl))
    | (apply op_no; (case hw => simp [g1, g2, hlt, v5, v6, w3]))
    | refine op_nil ?_ | refine next_normal ?_ | refine go_seq ?_ | refine go_region ?_ | refine go_skip ?_ | refine go_block ?_ | refine inb_normal ?_
    | (apply go_yes; (case hc => simp [g1, g2, hlt, v5, v6, w3])) | (apply go_no; (case hc => simp [g1, g2, hlt, v5, v6, w3]))
    | refine go_exit ?_ | refine next_exit ?_ | refine inb_here ?_ | refine inb_past (by decide) ?_ | refine go_ret ?_ | refine next_ret ?_ | refine inb_ret ?_))
          (apply ends_ok; (case h1 => simp; exact is_rfl); (case h2 => simp; exact is_rfl))
          simp
      · rw [decide_eq_false d1] at v5
        (repeat (first
    | (apply is_ok; (case hw => simp [g1, g2, hlt, v5, v6, w3]); (case he => simp [g1, g2, hlt, v5, v6, w3]; exact is_rfl))
    | (apply op_no; (case hw => simp [g1, g2, hlt, v5, v6, w3]))
    | refine op_nil ?_ | refine next_normal ?_ | refine go_seq ?_ | refine go_region ?_ | refine go_skip ?_ | refine go_block ?_ | refine inb_normal ?_
    | (apply go_yes; (case hc => simp [g1, g2, hlt, v5, v6, w3])) | (apply go_no; (case hc => simp [g1, g2, hlt, v5, v6, w3]))
    | refine go_exit ?_ | refine next_exit ?_ | refine inb_here ?_ | refine inb_past (by decide) ?_ | refine go_ret ?_ | refine next_ret ?_ | refine inb_ret ?_))
        exact ⟨hlt, by simp [w3], fun k h hk2 => by
          rcases Nat.lt_or_ge k i with h1 | h1
          · exact hI k h h1
          · have : k = i := by omega
            subst this
            exact fun h => absurd h d1⟩
    · have : i = 8 := by omega
      subst this
      have hu : ∀ p ∈ s.ps, hasP p → UsuP (p.base, p.blk) := fun p hp => by
        obtain ⟨k, hk', rfl⟩ := List.mem_iff_getElem.1 hp
        exact hI k hk' (by omega)
      rw [rightB_yes ⟨c1, c2, c3, c7, hu⟩] at hB
      have l1 := coreL_len s.ps
      have l2 := swpL_len s.ps
      have v7 := placed_eq (coreL s.ps) (by omega) (coreL_up hu) s.co c1.big
      have v8 := placed_eq (swpL s.ps) (by omega) (swpL_up hu) s.sw c2.big
      generalize apB (swpL s.ps) s.sw = b2 at v8 hB
      cases b1 : apB (coreL s.ps) s.co <;>
      · rw [b1] at v7 hB
        subst hB
        (repeat (first
    | (apply is_ok; (case hw => simp [z1, z2, v7, v8, exV]); (case he => simp [z1, z2, v7, v8, exV]; exact is_rfl))
    | (apply op_no; (case hw => simp [z1, z2, v7, v8, exV]))
    | refine op_nil ?_ | refine next_normal ?_ | refine go_seq ?_ | refine go_region ?_ | refine go_skip ?_ | refine go_block ?_ | refine inb_normal ?_
    | (apply go_yes; (case hc => simp [z1, z2, v7, v8, exV])) | (apply go_no; (case hc => simp [z1, z2, v7, v8, exV]))
    | refine go_exit ?_ | refine next_exit ?_ | refine inb_here ?_ | refine inb_past (by decide) ?_ | refine go_ret ?_ | refine next_ret ?_ | refine inb_ret ?_))
        (apply ends_ok; (case h1 => simp; exact is_rfl); (case h2 => simp; exact is_rfl))
        simp
end Go.Abs

namespace Go.Abs
open Go.Proofs
set_option maxRecDepth 100000
set_option linter.unusedSimpArgs false
set_option linter.unusedVariables false

end Go.Abs

namespace Go.Abs
open Go.Proofs
set_option maxRecDepth 100000
set_option linter.unusedSimpArgs false
set_option linter.unusedVariables false

/-- A single cell. -/
def NoAgg (x : V) : Prop := x.isAgg = false
@[simp] theorem noAgg_sl (es : List V) : NoAgg (.sl es) := by unfold NoAgg; simp
@[simp] theorem noAgg_own (a b c d : Nat) : NoAgg (.own a b c d) := by unfold NoAgg; simp
@[simp] theorem noAgg_nils : NoAgg .nils := by unfold NoAgg; simp

/-- The cells of a system with these slices. -/
def Sys.cw (s : Sys) (m b S B : V) : List V := s.c0.l ++ m :: b :: (s.c1.l ++ S :: B :: (s.c2.l ++ (prsC s.ps ++ (s.c3.l ++ s.tail1))))
theorem Sys.cells_cw (s : Sys) : s.cells = s.cw (.sl (ints s.mem)) (.sl (ints s.bad)) (.sl (strs s.S)) (.sl (ints s.B)) := rfl
theorem Sys.tail1_plain (s : Sys) : ∀ x ∈ s.tail1, PlainV x := fun x hx => s.plain x (by unfold Sys.cells; simp [hx])
@[simp] theorem Sys.cw_len (s : Sys) (m b S B : V) : (s.cw m b S B).length = 518 := by simp [Sys.cw, Sys.tail1, s.c0.len, s.c1.len, s.c2.len, s.c3.len, s.c4.len]
@[simp] theorem Sys.cw_ne (s : Sys) (m b S B : V) : (s.cw m b S B = []) = False := by
  rw [eq_iff_iff, iff_false]; intro h; have := s.cw_len m b S B; rw [h] at this; cases this
theorem sealL_append (H : Heap) : ∀ (a b : List V), sealL H (a ++ b) = match sealL H a, sealL H b with
    | some (a', x), some (b', y) => some (a' ++ b', x ++ y)
    | _, _ => none
  | [], b => by simp [sealL]; cases sealL H b <;> rfl
  | c :: a, b => by
    rw [List.cons_append, sealL, sealL_append H a b, sealL]
    cases sealV H c <;> cases sealL H a <;> cases sealL H b <;> simp
@[simp] theorem Sys.cw_seal (s : Sys) (m b S B : V) (H : Heap) : sealL H (s.cw m b S B) = match sealV H m, sealV H b, sealV H S, sealV H B with
    | some (m', x), some (b', y), some (S', z), some (B', w) => some (s.cw m' b' S' B', x ++ (y ++ (z ++ w)))
    | _, _, _, _ => none := by
  unfold Sys.cw
  rw [sealL_append, plain_sealL _ s.c0.pl, sealL, sealL, sealL_append, plain_sealL _ s.c1.pl, sealL, sealL, plain_sealL (s.c2.l ++ (prsC s.ps ++ (s.c3.l ++ s.tail1))) (by
    intro x hx
    simp only [List.mem_append] at hx
    rcases hx with h | h | h | h
    · exact s.c2.pl x h
    · exact prsC_plain _ x h
    · exact s.c3.pl x h
    · exact s.tail1_plain x h)]
  cases sealV H m <;> cases sealV H b <;> cases sealV H S <;> cases sealV H B <;> simp
theorem refsL_append : ∀ (a b : List V), refsL (a ++ b) = refsL a ++ refsL b
  | [], b => rfl
  | c :: a, b => by rw [List.cons_append, refsL, refsL_append a b, refsL, List.append_assoc]
theorem renL_append (ρ : Nat → Option Nat) : ∀ (a b : List V), renL ρ (a ++ b) = renL ρ a ++ renL ρ b
  | [], b => rfl
  | c :: a, b => by rw [List.cons_append, renL, renL_append ρ a b, renL, List.cons_append]
@[simp] theorem Sys.cw_refs (s : Sys) (m b S B : V) : refsL (s.cw m b S B) = refs m ++ (refs b ++ (refs S ++ (refs B ++ []))) := by
  unfold Sys.cw
  simp only [refsL_append, refsL, plain_refsL _ s.c0.pl, plain_refsL _ s.c1.pl, plain_refsL _ s.c2.pl, plain_refsL _ s.c3.pl, plain_refsL _ (prsC_plain s.ps), plain_refsL _ s.tail1_plain, List.nil_append, List.append_nil, List.append_assoc]
@[simp] theorem Sys.cw_ren (s : Sys) (m b S B : V) (ρ : Nat → Option Nat) : renL ρ (s.cw m b S B) = s.cw (ren ρ m) (ren ρ b) (ren ρ S) (ren ρ B) := by
  unfold Sys.cw
  simp only [renL_append, renL, plain_renL _ s.c0.pl, plain_renL _ s.c1.pl, plain_renL _ s.c2.pl, plain_renL _ s.c3.pl, plain_renL _ (prsC_plain s.ps), plain_renL _ s.tail1_plain]

def Sys.w_p11 (s : Sys) (m b S B : V) : List V := s.c0.l ++ [m]
def Sys.w_p84 (s : Sys) (m b S B : V) : List V := s.c0.l ++ m :: b :: s.c1.l
def Sys.w_p110 (s : Sys) (m b S B : V) : List V := s.c0.l ++ m :: b :: (s.c1.l ++ S :: B :: s.c2.l)
def Sys.w_p511 (s : Sys) (m b S B : V) : List V := s.c0.l ++ m :: b :: (s.c1.l ++ S :: B :: (s.c2.l ++ (prsC s.ps ++ s.c3.l)))
theorem Sys.w_p11_len (s : Sys) (m b S B : V) : (s.w_p11 m b S B).length = 11 := by simp [Sys.w_p11, s.c0.len]
theorem Sys.w_p84_len (s : Sys) (m b S B : V) : (s.w_p84 m b S B).length = 84 := by simp [Sys.w_p84, s.c0.len, s.c1.len]
theorem Sys.w_p110_len (s : Sys) (m b S B : V) : (s.w_p110 m b S B).length = 110 := by simp [Sys.w_p110, s.c0.len, s.c1.len, s.c2.len]
theorem Sys.w_p511_len (s : Sys) (m b S B : V) : (s.w_p511 m b S B).length = 511 := by simp [Sys.w_p511, s.c0.len, s.c1.len, s.c2.len, s.c3.len]
theorem Sys.w_at10 (s : Sys) (m b S B : V) : (s.cw m b S B) = s.c0.l ++ m :: (b :: (s.c1.l ++ S :: B :: (s.c2.l ++ (prsC s.ps ++ (s.c3.l ++ s.tail1))))) := rfl
theorem Sys.w_at11 (s : Sys) (m b S B : V) : (s.cw m b S B) = (s.w_p11 m b S B) ++ b :: (s.c1.l ++ S :: B :: (s.c2.l ++ (prsC s.ps ++ (s.c3.l ++ s.tail1)))) := by simp [Sys.cw, Sys.w_p11]
theorem Sys.w_at84 (s : Sys) (m b S B : V) : (s.cw m b S B) = (s.w_p84 m b S B) ++ ([S, B] ++ (s.c2.l ++ (prsC s.ps ++ (s.c3.l ++ s.tail1)))) := by simp [Sys.cw, Sys.w_p84]
theorem Sys.w_at110 (s : Sys) (m b S B : V) : (s.cw m b S B) = (s.w_p110 m b S B) ++ (prsC s.ps ++ (s.c3.l ++ s.tail1)) := by simp [Sys.cw, Sys.w_p110]
theorem Sys.w_at511 (s : Sys) (m b S B : V) : (s.cw m b S B) = (s.w_p511 m b S B) ++ ([.int .i64 s.sw.1, .int .i64 s.sw.2] ++ (.int .i64 s.co.1 :: .int .i64 s.co.2 :: s.c4.l)) := by simp [Sys.cw, Sys.w_p511, Sys.tail1]
theorem Sys.w_at513 (s : Sys) (m b S B : V) : (s.cw m b S B) = ((s.w_p511 m b S B) ++ [.int .i64 s.sw.1, .int .i64 s.sw.2]) ++ ([.int .i64 s.co.1, .int .i64 s.co.2] ++ s.c4.l) := by simp [Sys.cw, Sys.w_p511, Sys.tail1]

@[simp high] theorem Sys.w_sub_mem (s : Sys) (m b S B : V) (hx : NoAgg m) : sub Tryz.prog 26 (.agg (s.cw m b S B)) 10 = some (m) := by
  rw [s.w_at10 m b S B]; exact sub_one inf26 agg26 s.c0.len tsz26 hx
@[simp high] theorem Sys.w_sub_bad (s : Sys) (m b S B : V) (hx : NoAgg b) : sub Tryz.prog 26 (.agg (s.cw m b S B)) 11 = some (b) := by
  rw [s.w_at11 m b S B]; exact sub_one inf26 agg26 (s.w_p11_len m b S B) tsz26 hx
@[simp high] theorem Sys.w_sub_drive (s : Sys) (m b S B : V) : sub Tryz.prog 38 (.agg (s.cw m b S B)) 84 = some (.agg [S, B]) := by
  rw [s.w_at84 m b S B]; exact sub_agg inf38 agg38 (s.w_p84_len m b S B) tsz38.symm
@[simp high] theorem Sys.w_sub_S (s : Sys) (m b S B : V) (hx : NoAgg S) : sub Tryz.prog 36 (.agg (s.cw m b S B)) 84 = some (S) := by
  rw [s.w_at84 m b S B]; exact sub_one (pre := (s.w_p84 m b S B)) (post := B :: _) inf36 agg36 (s.w_p84_len m b S B) tsz36 hx
@[simp high] theorem Sys.w_sub_ps (s : Sys) (m b S B : V) : sub Tryz.prog 48 (.agg (s.cw m b S B)) 110 = some (.agg (prsC s.ps)) := by
  rw [s.w_at110 m b S B]; exact sub_agg inf48 agg48 (s.w_p110_len m b S B) (s.prs_len.trans tsz48.symm)
@[simp high] theorem Sys.w_sub_sw (s : Sys) (m b S B : V) : sub Tryz.prog 57 (.agg (s.cw m b S B)) 511 = some (exV s.sw) := by
  rw [s.w_at511 m b S B]; exact sub_agg inf57 agg57 (s.w_p511_len m b S B) tsz57.symm
@[simp high] theorem Sys.w_sub_co (s : Sys) (m b S B : V) : sub Tryz.prog 57 (.agg (s.cw m b S B)) 513 = some (exV s.co) := by
  rw [s.w_at513 m b S B]; exact sub_agg inf57 agg57 (by simp [(s.w_p511_len m b S B)]) tsz57.symm
@[simp high] theorem Sys.w_sub_sw1 (s : Sys) (m b S B : V) : sub Tryz.prog 3 (.agg (s.cw m b S B)) 511 = some (.int .i64 s.sw.1) := by
  rw [s.w_at511 m b S B]; exact sub_one (pre := (s.w_p511 m b S B)) (post := .int .i64 s.sw.2 :: _) inf3 agg3 (s.w_p511_len m b S B) tsz3 rfl
@[simp high] theorem Sys.w_sub_sw2 (s : Sys) (m b S B : V) : sub Tryz.prog 3 (.agg (s.cw m b S B)) 512 = some (.int .i64 s.sw.2) := by
  rw [s.w_at511 m b S B, show ∀ (u v : V) (r : List V), (s.w_p511 m b S B) ++ ([u, v] ++ r) = ((s.w_p511 m b S B) ++ [u]) ++ v :: r by simp]
  exact sub_one inf3 agg3 (by simp [(s.w_p511_len m b S B)]) tsz3 rfl
@[simp high] theorem Sys.w_sub_co1 (s : Sys) (m b S B : V) : sub Tryz.prog 3 (.agg (s.cw m b S B)) 513 = some (.int .i64 s.co.1) := by
  rw [s.w_at513 m b S B]; exact sub_one (pre := (s.w_p511 m b S B) ++ _) (post := .int .i64 s.co.2 :: _) inf3 agg3 (by simp [(s.w_p511_len m b S B)]) tsz3 rfl
@[simp high] theorem Sys.w_sub_co2 (s : Sys) (m b S B : V) : sub Tryz.prog 3 (.agg (s.cw m b S B)) 514 = some (.int .i64 s.co.2) := by
  rw [s.w_at513 m b S B, show ∀ (l : List V) (u v : V) (r : List V), l ++ ([u, v] ++ r) = (l ++ [u]) ++ v :: r by simp]
  exact sub_one inf3 agg3 (by simp [(s.w_p511_len m b S B)]) tsz3 rfl
@[simp high] theorem Sys.w_sub_all (s : Sys) (m b S B : V) : sub Tryz.prog 59 (.agg (s.cw m b S B)) 0 = some (.agg (s.cw m b S B)) := Go.Abs.sub_all inf59 agg59 ((s.cw_len m b S B).trans tsz59.symm)

section
variable {s : Sys} {i : Nat} {p : Pr} {m b S B : V}
theorem w_prs_off {off : Nat} (h : s.ps[i]? = some p) {pre post : List V} {x : V} (hc : p.cells = pre ++ x :: post) (hp : pre.length = off) {t : TypeId} {z : TypeInfo} (hz : Tryz.prog.info? t = some z) (ha : aggT Tryz.prog t = some false) (hm : z.size = 1) (hx : x.isAgg = false) :
    sub Tryz.prog t (.agg (s.cw m b S B)) (110 + i * 29 + off) = some x ∧ sub Tryz.prog t (.agg (prsC s.ps)) (i * 29 + off) = some x := by
  obtain ⟨h1, h2⟩ := prsC_at h
  have e1 : (s.cw m b S B) = ((s.w_p110 m b S B) ++ (prsC (s.ps.take i) ++ pre)) ++ x :: (post ++ (prsC (s.ps.drop (i + 1)) ++ (s.c3.l ++ s.tail1))) := by rw [s.w_at110 m b S B, h1, hc]; simp
  have e2 : prsC s.ps = (prsC (s.ps.take i) ++ pre) ++ x :: (post ++ prsC (s.ps.drop (i + 1))) := by rw [h1, hc]; simp
  constructor
  · rw [e1]; exact sub_one hz ha (by simp [(s.w_p110_len m b S B), h2, hp]; omega) hm hx
  · rw [e2]; exact sub_one hz ha (by simp [h2, hp]) hm hx
@[simp high] theorem Sys.w_pr_base (h : s.ps[i]? = some p) : sub Tryz.prog 3 (.agg (s.cw m b S B)) (110 + i * 29 + 13) = some (.int .i64 p.base) := (w_prs_off h p.cells_base p.pre_base inf3 agg3 tsz3 rfl).1
@[simp high] theorem Sys.w_pr_blk (h : s.ps[i]? = some p) : sub Tryz.prog 3 (.agg (s.cw m b S B)) (110 + i * 29 + 14) = some (.int .i64 p.blk) := (w_prs_off h p.cells_blk p.pre_blk inf3 agg3 tsz3 rfl).1
@[simp high] theorem Sys.w_pr_swd (h : s.ps[i]? = some p) : sub Tryz.prog 4 (.agg (s.cw m b S B)) (110 + i * 29 + 15) = some (.bool p.swd) := (w_prs_off h p.cells_swd p.pre_swd inf4 agg4 tsz4 rfl).1
@[simp high] theorem Sys.w_pr_all (h : s.ps[i]? = some p) : sub Tryz.prog 47 (.agg (s.cw m b S B)) (110 + i * 29) = some (.agg p.cells) := by
  obtain ⟨h1, h2⟩ := prsC_at h
  have e1 : (s.cw m b S B) = ((s.w_p110 m b S B) ++ prsC (s.ps.take i)) ++ (p.cells ++ (prsC (s.ps.drop (i + 1)) ++ (s.c3.l ++ s.tail1))) := by rw [s.w_at110 m b S B, h1]; simp
  rw [e1]; exact sub_agg inf47 agg47 (by simp [(s.w_p110_len m b S B), h2]) (p.cells_len.trans tsz47.symm)
end


/-- A system with another process. -/
def Sys.setP (s : Sys) (i : Nat) (p : Pr) : Sys := { s with ps := s.ps.set i p, hps := by simp [s.hps] }
@[simp] theorem Sys.setP_ps (s : Sys) (i : Nat) (p : Pr) : (s.setP i p).ps = s.ps.set i p := rfl
section
variable {s : Sys} {i : Nat} {p : Pr} {m b S B : V}
@[simp high] theorem w_set_mem {x : V} (hx : NoAgg x) : setSub (.agg (s.cw m b S B)) 10 x = some (.agg (s.cw x b S B)) := by
  rw [s.w_at10 m b S B, s.w_at10 x b S B]; exact setSub_one s.c0.len hx
@[simp high] theorem w_set_bad {x : V} (hx : NoAgg x) : setSub (.agg (s.cw m b S B)) 11 x = some (.agg (s.cw m x S B)) := by
  rw [s.w_at11 m b S B, s.w_at11 m x S B]; exact setSub_one (s.w_p11_len m b S B) hx
@[simp high] theorem w_set_drive (x y : V) : setSub (.agg (s.cw m b S B)) 84 (.agg [x, y]) = some (.agg (s.cw m b x y)) := by
  rw [s.w_at84 m b S B, s.w_at84 m b x y]; exact setSub_agg (s.w_p84_len m b S B) rfl
theorem w_setP {q : Pr} (hi : i < s.ps.length) : (s.setP i q).cw m b S B = (s.w_p110 m b S B ++ prsC (s.ps.take i)) ++ (q.cells ++ (prsC (s.ps.drop (i + 1)) ++ (s.c3.l ++ s.tail1))) := by
  have h1 := (s.setP i q).w_at110 m b S B
  rw [Sys.setP_ps, prsC_set hi] at h1
  rw [h1]
  simp [Sys.setP, Sys.w_p110, Sys.tail1]
theorem w_set_one {off : Nat} (h : s.ps[i]? = some p) {q : Pr} {pre post : List V} {x y : V} (hc : p.cells = pre ++ x :: post) (hq : q.cells = pre ++ y :: post) (hp : pre.length = off) (hx : y.isAgg = false) : setSub (.agg (s.cw m b S B)) (110 + i * 29 + off) y = some (.agg ((s.setP i q).cw m b S B)) := by
  obtain ⟨h1, h2⟩ := prsC_at h
  have hi := (List.getElem?_eq_some_iff.1 h).1
  have e1 : (s.cw m b S B) = ((s.w_p110 m b S B) ++ (prsC (s.ps.take i) ++ pre)) ++ x :: (post ++ (prsC (s.ps.drop (i + 1)) ++ (s.c3.l ++ s.tail1))) := by rw [s.w_at110 m b S B, h1, hc]; simp
  have e2 : (s.setP i q).cw m b S B = ((s.w_p110 m b S B) ++ (prsC (s.ps.take i) ++ pre)) ++ y :: (post ++ (prsC (s.ps.drop (i + 1)) ++ (s.c3.l ++ s.tail1))) := by rw [w_setP hi, hq]; simp
  rw [e1, e2]
  exact setSub_one (by simp [(s.w_p110_len m b S B), h2, hp]; omega) hx
@[simp high] theorem w_set_base (h : s.ps[i]? = some p) (v : Int) : setSub (.agg (s.cw m b S B)) (110 + i * 29 + 13) (.int .i64 v) = some (.agg ((s.setP i { p with base := v }).cw m b S B)) :=
  w_set_one h p.cells_base (Pr.cells_base { p with base := v }) p.pre_base rfl
@[simp high] theorem w_set_swd (h : s.ps[i]? = some p) (v : Bool) : setSub (.agg (s.cw m b S B)) (110 + i * 29 + 15) (.bool v) = some (.agg ((s.setP i { p with swd := v }).cw m b S B)) :=
  w_set_one h p.cells_swd (Pr.cells_swd { p with swd := v }) p.pre_swd rfl
theorem setSub_all {xs ys : List V} (h : ys.length = xs.length) : setSub (.agg xs) 0 (.agg ys) = some (.agg ys) := by
  have := setSub_agg (pre := []) (mid := xs) (mid' := ys) (post := []) (off := 0) rfl h
  simpa using this
@[simp high] theorem z_set_all (a b' c d e f g : V) : setSub (.agg (zO a b' c d e f g)) 0 (.agg (s.cw m b S B)) = some (.agg (s.cw m b S B)) := setSub_all (by simp)
@[simp high] theorem z_set_zero (a b' c d e f g a1 b1 c1 d1 e1 f1 g1 : V) : setSub (.agg (zO a b' c d e f g)) 0 (.agg (zO a1 b1 c1 d1 e1 f1 g1)) = some (.agg (zO a1 b1 c1 d1 e1 f1 g1)) := setSub_all (by simp)
@[simp high] theorem z_sub_all (a b' c d e f g : V) : sub Tryz.prog 59 (.agg (zO a b' c d e f g)) 0 = some (.agg (zO a b' c d e f g)) := Go.Abs.sub_all inf59 agg59 ((zO_len a b' c d e f g).trans tsz59.symm)
end

def imgB (ps : List Pr) (k : Int) (f : Bool) : Bool := if 0 ≤ k then match ps[k.toNat]? with
    | some p => decide (hasP p) && (p.swd == f)
    | none => false
  else false
theorem imgB_iff {ps : List Pr} {k : Int} {f : Bool} : imgB ps k f = true ↔ ∃ i : Nat, ∃ p, k = i ∧ ps[i]? = some p ∧ hasP p ∧ p.swd = f := by
  unfold imgB
  constructor
  · intro h
    split at h
    · split at h
      · rename_i h0 p hp
        simp only [Bool.and_eq_true, decide_eq_true_eq, beq_iff_eq] at h
        exact ⟨k.toNat, p, by omega, hp, h.1, h.2⟩
      · cases h
    · cases h
  · rintro ⟨i, p, rfl, h1, h2, h3⟩
    rw [if_pos (by omega), show (i : Int).toNat = i by omega, h1]
    simp [h2, h3]
theorem swImage_eq (s : Sys) (k : Int) (f : Bool) : bodyW DC 19 [.agg s.cells, .int .i64 k, .bool f] [] = some (.bool (imgB s.ps k f), []) := by
  have hps := s.hps
  unfold imgB
  by_cases h1 : 0 ≤ k ∧ k < 8
  · obtain ⟨i, rfl⟩ := Int.eq_ofNat_of_zero_le h1.1
    have hi : i < s.ps.length := by omega
    have g2 : s.ps[i]? = some s.ps[i] := List.getElem?_eq_getElem hi
    have g1 : (i : Int) < 8 := h1.2
    have g3 : i < 8 := by omega
    have v := hasImage_eq s.ps[i]
    rw [if_pos h1.1, show (i : Int).toNat = i by omega, g2]
    simp only
    by_cases c1 : hasP s.ps[i]
    · rw [decide_eq_true c1] at v ⊢
      (refine gives_iff ?_; refine go_func Tryz.f19 rfl rfl (by simp [Tryz.f19]) ?_; dsimp only [codeL, Tryz.f19, scL, sopsL, guardL, dstAt, loopKey])
      (repeat (first
    | (apply is_ok; (case hw => simp [g1, g2, g3, v]); (case he => simp [g1, g2, g3, v]; exact is_rfl))
    | (apply op_no; (case hw => simp [g1, g2, g3, v]))
    | refine op_nil ?_ | refine next_normal ?_ | refine go_seq ?_ | refine go_region ?_ | refine go_skip ?_ | refine go_block ?_ | refine inb_normal ?_
    | (apply go_yes; (case hc => simp [g1, g2, g3, v])) | (apply go_no; (case hc => simp [g1, g2, g3, v]))
    | refine go_exit ?_ | refine next_exit ?_ | refine inb_here ?_ | refine inb_past (by decide) ?_ | refine go_ret ?_ | refine next_ret ?_ | refine inb_ret ?_))
      (apply ends_ok; (case h1 => simp; exact is_rfl); (case h2 => simp; exact is_rfl))
      simp
    · rw [decide_eq_false c1] at v ⊢
      (refine gives_iff ?_; refine go_func Tryz.f19 rfl rfl (by simp [Tryz.f19]) ?_; dsimp only [codeL, Tryz.f19, scL, sopsL, guardL, dstAt, loopKey])
      (repeat (first
    | (apply is_ok; (case hw => simp [g1, g2, g3, v]); (case he => simp [g1, g2, g3, v]; exact is_rfl))
    | (apply op_no; (case hw => simp [g1, g2, g3, v]))
    | refine op_nil ?_ | refine next_normal ?_ | refine go_seq ?_ | refine go_region ?_ | refine go_skip ?_ | refine go_block ?_ | refine inb_normal ?_
    | (apply go_yes; (case hc => simp [g1, g2, g3, v])) | (apply go_no; (case hc => simp [g1, g2, g3, v]))
    | refine go_exit ?_ | refine next_exit ?_ | refine inb_here ?_ | refine inb_past (by decide) ?_ | refine go_ret ?_ | refine next_ret ?_ | refine inb_ret ?_))
      (apply ends_ok; (case h1 => simp; exact is_rfl); (case h2 => simp; exact is_rfl))
      simp
  · by_cases c0 : 0 ≤ k
    · have c1 : ¬ k < 8 := fun h => h1 ⟨c0, h⟩
      have c2 : s.ps[k.toNat]? = none := by rw [List.getElem?_eq_none_iff]; omega
      rw [if_pos c0, c2]
      (refine gives_iff ?_; refine go_func Tryz.f19 rfl rfl (by simp [Tryz.f19]) ?_; dsimp only [codeL, Tryz.f19, scL, sopsL, guardL, dstAt, loopKey])
      (repeat (first
    | (apply is_ok; (case hw => simp [c0, c1]); (case he => simp [c0, c1]; exact is_rfl))
    | (apply op_no; (case hw => simp [c0, c1]))
    | refine op_nil ?_ | refine next_normal ?_ | refine go_seq ?_ | refine go_region ?_ | refine go_skip ?_ | refine go_block ?_ | refine inb_normal ?_
    | (apply go_yes; (case hc => simp [c0, c1])) | (apply go_no; (case hc => simp [c0, c1]))
    | refine go_exit ?_ | refine next_exit ?_ | refine inb_here ?_ | refine inb_past (by decide) ?_ | refine go_ret ?_ | refine next_ret ?_ | refine inb_ret ?_))
      (apply ends_ok; (case h1 => simp; exact is_rfl); (case h2 => simp; exact is_rfl))
      simp
    · rw [if_neg c0]
      (refine gives_iff ?_; refine go_func Tryz.f19 rfl rfl (by simp [Tryz.f19]) ?_; dsimp only [codeL, Tryz.f19, scL, sopsL, guardL, dstAt, loopKey])
      (repeat (first
    | (apply is_ok; (case hw => simp [c0]); (case he => simp [c0]; exact is_rfl))
    | (apply op_no; (case hw => simp [c0]))
    | refine op_nil ?_ | refine next_normal ?_ | refine go_seq ?_ | refine go_region ?_ | refine go_skip ?_ | refine go_block ?_ | refine inb_normal ?_
    | (apply go_yes; (case hc => simp [c0])) | (apply go_no; (case hc => simp [c0]))
    | refine go_exit ?_ | refine next_exit ?_ | refine inb_here ?_ | refine inb_past (by decide) ?_ | refine go_ret ?_ | refine next_ret ?_ | refine inb_ret ?_))
      (apply ends_ok; (case h1 => simp; exact is_rfl); (case h2 => simp; exact is_rfl))
      simp
end Go.Abs

namespace Go.Abs
open Go.Proofs
set_option maxRecDepth 100000
set_option linter.unusedSimpArgs false
set_option linter.unusedVariables false

/-- A byte of a memory of words. -/
def byteAt (mem : List Int) (k : Nat) : UInt8 := UInt8.ofNat ((mem.getD (k / 2) 0).fdiv (2 ^ (k % 2 * 8)) % 256).toNat
def bytesL (mem : List Int) (a n : Nat) : List UInt8 := (List.range n).map fun i => byteAt mem (a + i)
@[simp] theorem bytesL_len (mem : List Int) (a n : Nat) : (bytesL mem a n).length = n := by simp [bytesL]
theorem bytesL_succ (mem : List Int) (a n : Nat) : bytesL mem a (n + 1) = bytesL mem a n ++ [byteAt mem (a + n)] := by simp [bytesL, List.range_succ]
theorem u8s_append (a b : List UInt8) : u8s (a ++ b) = u8s a ++ u8s b := by simp [u8s]
@[simp] theorem u8s_len (s : List UInt8) : (u8s s).length = s.length := by simp [u8s]
theorem wrap_u8 (x : Int) : IntKind.u8.wrap x = ((UInt8.ofNat (x % 256).toNat).toNat : Int) := by
  have : IntKind.u8.wrap x = x % 256 := by simp [IntKind.wrap, IntKind.bits, IntKind.signed]
  rw [this]
  simp
  omega
theorem set_fill {z v : V} {L : List V} {i n : Nat} (hL : L.length = i) (hi : i < n) : (L ++ List.replicate (n - i) z).set i v = (L ++ [v]) ++ List.replicate (n - (i + 1)) z := by
  subst hL
  rw [List.set_append_right _ _ (Nat.le_refl _), Nat.sub_self, show n - L.length = (n - (L.length + 1)) + 1 by omega, List.replicate_succ]
  simp

theorem within_ok (mem : List Int) (hm : mem.length ≤ 1000000) (a n : Nat) (h : a + n ≤ 2 * mem.length) : bodyW DC 55 [.sl (ints mem), .int .i64 a, .int .i64 n] [] = some (.bool true, []) := by
  have w1 : IntKind.i64.wrap (2 * (mem.length : Int)) = 2 * (mem.length : Int) := wrap_id (by omega) (by omega)
  have w2 : IntKind.i64.wrap (2 * (mem.length : Int) - a) = 2 * (mem.length : Int) - a := wrap_id (by omega) (by omega)
  have c1 : (a : Int) ≤ 2 * (mem.length : Int) := by omega
  have c2 : (n : Int) ≤ 2 * (mem.length : Int) - a := by omega
  (refine gives_iff ?_; refine go_func Tryz.f55 rfl rfl (by simp [Tryz.f55]) ?_; dsimp only [codeL, Tryz.f55, scL, sopsL, guardL, dstAt, loopKey])
  (repeat (first
    | (apply is_ok; (case hw => simp [w1, w2, c1, c2]); (case he => simp [w1, w2, c1, c2]; exact is_rfl))
    | (apply op_no; (case hw => simp [w1, w2, c1, c2]))
    | refine op_nil ?_ | refine next_normal ?_ | refine go_seq ?_ | refine go_region ?_ | refine go_skip ?_ | refine go_block ?_ | refine inb_normal ?_
    | (apply go_yes; (case hc => simp [w1, w2, c1, c2])) | (apply go_no; (case hc => simp [w1, w2, c1, c2]))
    | refine go_exit ?_ | refine next_exit ?_ | refine inb_here ?_ | refine inb_past (by decide) ?_ | refine go_ret ?_ | refine next_ret ?_ | refine inb_ret ?_))
  (apply ends_ok; (case h1 => simp; exact is_rfl); (case h2 => simp; exact is_rfl))
  simp

theorem mBytes_eq (mem : List Int) (hm : mem.length ≤ 1000000) (a n : Nat) (h : a + n ≤ 2 * mem.length) : bodyW DC 23 [.sl (ints mem), .int .i64 a, .int .i64 n] [] = some (.tuple [.str (bytesL mem a n), .int .i64 0], []) := by
  have v1 := within_ok mem hm a n h
  have r1 : n ≤ room := by unfold room; omega
  (refine gives_iff ?_; refine go_func Tryz.f23 rfl rfl (by simp [Tryz.f23]) ?_; dsimp only [codeL, Tryz.f23, scL, sopsL, guardL, dstAt, loopKey])
  (repeat (first
    | (apply is_ok; (case hw => simp [v1, r1]); (case he => simp [v1, r1]; exact is_rfl))
    | (apply op_no; (case hw => simp [v1, r1]))
    | refine op_nil ?_ | refine next_normal ?_ | refine go_seq ?_ | refine go_region ?_ | refine go_skip ?_ | refine go_block ?_ | refine inb_normal ?_
    | (apply go_yes; (case hc => simp [v1, r1])) | (apply go_no; (case hc => simp [v1, r1]))
    | refine go_exit ?_ | refine next_exit ?_ | refine inb_here ?_ | refine inb_past (by decide) ?_ | refine go_ret ?_ | refine next_ret ?_ | refine inb_ret ?_))
  refine go_count n (fun i => [(0, .sl (ints mem)), (1, .int .i64 a), (8, .own 0 n 0 n), (19, .int .i64 n), (20, .int .i64 i)]) (fun i => [.dat true 1 (u8s (bytesL mem a i) ++ List.replicate (n - i) (.int .u8 0))]) (fun _ => True) (by simp [bytesL, u8s, ofVal]) trivial fun i hi _ => ?_
  by_cases hlt : i < n
  · have g1 : (i : Int) < n := by omega
    have w1 : IntKind.i64.wrap ((i : Int) + 1) = (i : Int) + 1 := wrap_id (by omega) (by omega)
    have g3 : i + (n - i) = n := by omega
    have gb : i < n := hlt
    obtain ⟨A, hA⟩ : ∃ A, A = a + i := ⟨_, rfl⟩
    have w2 : IntKind.i64.wrap ((a : Int) + i) = (A : Int) := by rw [hA, wrap_id (by omega) (by omega)]; omega
    obtain ⟨w, hw⟩ : ∃ w, w = A / 2 := ⟨_, rfl⟩
    have q1 : (A : Int).tdiv 2 = (w : Int) := by rw [Int.tdiv_eq_ediv_of_nonneg (by omega)]; omega
    have q3 : IntKind.i64.wrap (w : Int) = (w : Int) := wrap_id (by omega) (by omega)
    have z0 : IntKind.i64.wrap 0 = 0 := rfl
    have z8 : IntKind.i64.wrap 8 = 8 := rfl
    have mb : min 8 IntKind.i64.bits = 8 := rfl
    have hwl : w < mem.length := by omega
    have g2 : mem[w]? = some mem[w] := List.getElem?_eq_getElem hwl
    have ex : ∃ e, (u8s (bytesL mem a i) ++ List.replicate (n - i) (V.int .u8 0))[i]? = some (V.int .u8 e) := by
      exact ⟨0, by rw [List.getElem?_append_right (by simp), List.getElem?_replicate, if_pos (by simp; omega)]⟩
    obtain ⟨e0, he0⟩ := ex
    have hl : (u8s (bytesL mem a i)).length = i := by simp
    have hb : byteAt mem (a + i) = UInt8.ofNat (mem[w].fdiv (2 ^ (A % 2 * 8)) % 256).toNat := by
      unfold byteAt
      rw [← hA, ← hw, List.getD_eq_getElem?_getD, g2]
      rfl
    have hset := fun v => set_fill (z := V.int .u8 0) (v := v) hl hlt
    rcases Nat.mod_two_eq_zero_or_one A with h0 | h0
    · have q2 : (A : Int).tmod 2 = 0 := by rw [Int.tmod_eq_emod_of_nonneg (by omega)]; omega
      rw [h0] at hb
      have hb2 : IntKind.u8.wrap (mem[w]) = ((byteAt mem (a + i)).toNat : Int) := by rw [wrap_u8, hb]; simp
      rw [show n - (i + 1) = n - (i + 1) from rfl] at hset
      (repeat (first
    | (apply is_ok; (case hw => simp [g1, g2, g3, hlt, w1, w2, q1, q2, q3, z0, z8, hwl, he0, hset, shiftOp, mb, hb2]); (case he => simp [g1, g2, g3, hlt, w1, w2, q1, q2, q3, z0, z8, hwl, he0, hset, shiftOp, mb, hb2]; exact is_rfl))
    | (apply op_no; (case hw => simp [g1, g2, g3, hlt, w1, w2, q1, q2, q3, z0, z8, hwl, he0, hset, shiftOp, mb, hb2]))
    | refine op_nil ?_ | refine next_normal ?_ | refine go_seq ?_ | refine go_region ?_ | refine go_skip ?_ | refine go_block ?_ | refine inb_normal ?_
    | (apply go_yes; (case hc => simp [g1, g2, g3, hlt, w1, w2, q1, q2, q3, z0, z8, hwl, he0, hset, shiftOp, mb, hb2])) | (apply go_no; (case hc => simp [g1, g2, g3, hlt, w1, w2, q1, q2, q3, z0, z8, hwl, he0, hset, shiftOp, mb, hb2]))
    | refine go_exit ?_ | refine next_exit ?_ | refine inb_here ?_ | refine inb_past (by decide) ?_ | refine go_ret ?_ | refine next_ret ?_ | refine inb_ret ?_))
      exact ⟨hlt, by simp [w1, bytesL_succ, u8s_append, u8s], trivial⟩
    · have q2 : (A : Int).tmod 2 = 1 := by rw [Int.tmod_eq_emod_of_nonneg (by omega)]; omega
      rw [h0] at hb
      have hb2 : IntKind.u8.wrap (mem[w].fdiv 256) = ((byteAt mem (a + i)).toNat : Int) := by rw [wrap_u8, hb]; simp
      rw [show n - (i + 1) = n - (i + 1) from rfl] at hset
      (repeat (first
    | (apply is_ok; (case hw => simp [g1, g2, g3, hlt, w1, w2, q1, q2, q3, z0, z8, hwl, he0, hset, shiftOp, mb, hb2]); (case he => simp [g1, g2, g3, hlt, w1, w2, q1, q2, q3, z0, z8, hwl, he0, hset, shiftOp, mb, hb2]; exact is_rfl))
    | (apply op_no; (case hw => simp [g1, g2, g3, hlt, w1, w2, q1, q2, q3, z0, z8, hwl, he0, hset, shiftOp, mb, hb2]))
    | refine op_nil ?_ | refine next_normal ?_ | refine go_seq ?_ | refine go_region ?_ | refine go_skip ?_ | refine go_block ?_ | refine inb_normal ?_
    | (apply go_yes; (case hc => simp [g1, g2, g3, hlt, w1, w2, q1, q2, q3, z0, z8, hwl, he0, hset, shiftOp, mb, hb2])) | (apply go_no; (case hc => simp [g1, g2, g3, hlt, w1, w2, q1, q2, q3, z0, z8, hwl, he0, hset, shiftOp, mb, hb2]))
    | refine go_exit ?_ | refine next_exit ?_ | refine inb_here ?_ | refine inb_past (by decide) ?_ | refine go_ret ?_ | refine next_ret ?_ | refine inb_ret ?_))
      exact ⟨hlt, by simp [w1, bytesL_succ, u8s_append, u8s], trivial⟩
  · have : i = n := by omega
    subst this
    (repeat (first
    | (apply is_ok; (case hw => simp); (case he => simp; exact is_rfl))
    | (apply op_no; (case hw => simp))
    | refine op_nil ?_ | refine next_normal ?_ | refine go_seq ?_ | refine go_region ?_ | refine go_skip ?_ | refine go_block ?_ | refine inb_normal ?_
    | (apply go_yes; (case hc => simp)) | (apply go_no; (case hc => simp))
    | refine go_exit ?_ | refine next_exit ?_ | refine inb_here ?_ | refine inb_past (by decide) ?_ | refine go_ret ?_ | refine next_ret ?_ | refine inb_ret ?_))
    (apply ends_ok; (case h1 => simp; exact is_rfl); (case h2 => simp; exact is_rfl))
    simp

/-- A word with another byte. -/
def updB (w : Int) (h : Nat) (b : UInt8) : Int := if h = 0 then w - w % 256 + b.toNat else w % 256 + 256 * b.toNat
theorem updB_range {w : Int} (h : Nat) (b : UInt8) (hw : 0 ≤ w ∧ w ≤ 65535) : 0 ≤ updB w h b ∧ updB w h b ≤ 65535 := by
  have := b.toNat_lt
  unfold updB
  split <;> omega

theorem nat_andnot (W m k : Nat) (hW : W < 2 ^ 64) (hk : m < 2 ^ 64) : (BitVec.ofInt 64 (W : Int) &&& ~~~ BitVec.ofInt 64 (m : Int)).toNat = W &&& (2 ^ 64 - (m + 1)) := by
  rw [BitVec.toNat_and, BitVec.toNat_not, BitVec.toNat_ofInt, BitVec.toNat_ofInt]
  congr 1
  · omega
  · omega
theorem land_hi (W : Nat) (hW : W < 2 ^ 64) : W &&& (2 ^ 64 - (255 + 1)) = 2 ^ 8 * (W / 256) := by
  apply Nat.eq_of_testBit_eq
  intro i
  rw [Nat.testBit_and, Nat.testBit_two_pow_sub_succ (by decide), show (255 : Nat) = 2 ^ 8 - 1 from rfl, Nat.testBit_two_pow_sub_one, Nat.testBit_two_pow_mul, show (256 : Nat) = 2 ^ 8 from rfl, Nat.testBit_div_two_pow]
  by_cases h : i < 8
  · have h' : ¬ 8 ≤ i := by omega
    simp [h, h']
  · have e : i - 8 + 8 = i := by omega
    by_cases h2 : i < 64
    · simp [h, h2, e]
      omega
    · have : W.testBit i = false := Nat.testBit_lt_two_pow (Nat.lt_of_lt_of_le hW (Nat.pow_le_pow_right (by decide) (by omega)))
      simp [this, e]
theorem land_lo (W : Nat) (hW : W < 2 ^ 16) : W &&& (2 ^ 64 - (65280 + 1)) = W % 256 := by
  apply Nat.eq_of_testBit_eq
  intro i
  rw [Nat.testBit_and, Nat.testBit_two_pow_sub_succ (by decide), show (256 : Nat) = 2 ^ 8 from rfl, Nat.testBit_mod_two_pow]
  have e : (65280 : Nat) = 2 ^ 8 * (2 ^ 8 - 1) := by decide
  rw [e, Nat.testBit_two_pow_mul, Nat.testBit_two_pow_sub_one]
  by_cases h : i < 8
  · have : ¬ 8 ≤ i := by omega
    simp [h, this]
    omega
  · by_cases h2 : i < 16
    · have h3 : 8 ≤ i := by omega
      have h4 : i - 8 < 8 := by omega
      simp [h, h3, h4]
    · have : W.testBit i = false := Nat.testBit_lt_two_pow (Nat.lt_of_lt_of_le hW (Nat.pow_le_pow_right (by decide) (by omega)))
      simp [this]
theorem i64_small {n : Nat} (h : n < 9223372036854775808) : IntKind.i64.wrap (n : Int) = n := wrap_id (by omega) (by omega)

/-- The two steps that put a byte into a word. -/
theorem put_lo (w : Int) (b : UInt8) (hw : 0 ≤ w ∧ w ≤ 65535) : intOp .andNot .i64 w 255 = some (.int .i64 (w - w % 256)) ∧ intOp .or .i64 (w - w % 256) (b.toNat : Int) = some (.int .i64 (updB w 0 b)) := by
  obtain ⟨W, rfl⟩ := Int.eq_ofNat_of_zero_le hw.1
  have hb := b.toNat_lt
  have e1 := (nat_andnot W 255 0 (by omega) (by decide)).trans (land_hi W (by omega))
  constructor
  · show some (V.int .i64 (IntKind.i64.wrap ((BitVec.ofInt 64 (W : Int) &&& ~~~ BitVec.ofInt 64 ((255 : Nat) : Int)).toNat : Int))) = _
    rw [e1, i64_small (by omega)]
    congr 2
    omega
  · show some (V.int .i64 (IntKind.i64.wrap ((BitVec.ofInt 64 ((W : Int) - W % 256) ||| BitVec.ofInt 64 (b.toNat : Int)).toNat : Int))) = _
    rw [show ((W : Int) - W % 256) = ((2 ^ 8 * (W / 256) : Nat) : Int) by omega, BitVec.toNat_or, BitVec.toNat_ofInt, BitVec.toNat_ofInt]
    rw [show (((2 ^ 8 * (W / 256) : Nat) : Int) % ((2 ^ 64 : Nat) : Int)).toNat = 2 ^ 8 * (W / 256) by omega, show ((b.toNat : Int) % ((2 ^ 64 : Nat) : Int)).toNat = b.toNat by omega]
    rw [← Nat.two_pow_add_eq_or_of_lt (by omega), i64_small (by omega)]
    congr 2
    unfold updB
    rw [if_pos rfl]
    omega
theorem put_hi (w : Int) (b : UInt8) (hw : 0 ≤ w ∧ w ≤ 65535) : intOp .andNot .i64 w 65280 = some (.int .i64 (w % 256)) ∧ intOp .or .i64 (w % 256) ((b.toNat : Int) * 256) = some (.int .i64 (updB w 1 b)) := by
  obtain ⟨W, rfl⟩ := Int.eq_ofNat_of_zero_le hw.1
  have hb := b.toNat_lt
  have e1 := (nat_andnot W 65280 0 (by omega) (by decide)).trans (land_lo W (by omega))
  constructor
  · show some (V.int .i64 (IntKind.i64.wrap ((BitVec.ofInt 64 (W : Int) &&& ~~~ BitVec.ofInt 64 ((65280 : Nat) : Int)).toNat : Int))) = _
    rw [e1, i64_small (by omega)]
    congr 2
  · show some (V.int .i64 (IntKind.i64.wrap ((BitVec.ofInt 64 ((W : Int) % 256) ||| BitVec.ofInt 64 ((b.toNat : Int) * 256)).toNat : Int))) = _
    rw [show ((W : Int) % 256) = ((W % 256 : Nat) : Int) by omega, show ((b.toNat : Int) * 256) = ((2 ^ 8 * b.toNat : Nat) : Int) by omega, BitVec.toNat_or, BitVec.toNat_ofInt, BitVec.toNat_ofInt]
    rw [show (((W % 256 : Nat) : Int) % ((2 ^ 64 : Nat) : Int)).toNat = W % 256 by omega, show (((2 ^ 8 * b.toNat : Nat) : Int) % ((2 ^ 64 : Nat) : Int)).toNat = 2 ^ 8 * b.toNat by omega]
    rw [Nat.or_comm, ← Nat.two_pow_add_eq_or_of_lt (by omega), i64_small (by omega)]
    congr 2
    unfold updB
    rw [if_neg (by decide)]
    omega

def setByte (mem : List Int) (k : Nat) (b : UInt8) : List Int := mem.set (k / 2) (updB (mem.getD (k / 2) 0) (k % 2) b)
def storeN (mem : List Int) (a : Nat) (s : List UInt8) : Nat → List Int
  | 0 => mem
  | i + 1 => setByte (storeN mem a s i) (a + i) (s.getD i 0)
@[simp] theorem setByte_len (mem : List Int) (k : Nat) (b : UInt8) : (setByte mem k b).length = mem.length := by simp [setByte]
@[simp] theorem storeN_len (mem : List Int) (a : Nat) (s : List UInt8) (i : Nat) : (storeN mem a s i).length = mem.length := by
  induction i with
  | zero => rfl
  | succ i ih => simp [storeN, ih]
def Words (mem : List Int) : Prop := ∀ w ∈ mem, 0 ≤ w ∧ w ≤ 65535
theorem getD_words {mem : List Int} (h : Words mem) (i : Nat) : 0 ≤ mem.getD i 0 ∧ mem.getD i 0 ≤ 65535 := by
  rw [List.getD_eq_getElem?_getD]
  cases hc : mem[i]? with
  | none => simp
  | some w => exact h w (List.mem_of_getElem? hc)
theorem setByte_words {mem : List Int} (h : Words mem) (k : Nat) (b : UInt8) : Words (setByte mem k b) := by
  intro w hw
  rcases List.mem_or_eq_of_mem_set hw with h1 | rfl
  · exact h w h1
  · exact updB_range _ _ (getD_words h _)
theorem storeN_words {mem : List Int} (h : Words mem) (a : Nat) (s : List UInt8) : ∀ i, Words (storeN mem a s i)
  | 0 => h
  | i + 1 => setByte_words (storeN_words h a s i) _ _

theorem mcopied_eq (mem : List Int) (hm : mem.length ≤ 1000000) : bodyW DC 67 [.sl (ints mem)] [] = some (.own 0 mem.length 0 mem.length, [.dat true 1 (ints mem)]) := by
  have r1 : mem.length ≤ room := by unfold room; omega
  have r2 : mem.length * 8 ≤ room := by unfold room; omega
  (refine gives_iff ?_; refine go_func Tryz.f67 rfl rfl (by simp [Tryz.f67]) ?_; dsimp only [codeL, Tryz.f67, scL, sopsL, guardL, dstAt, loopKey])
  (repeat (first
    | (apply is_ok; (case hw => simp [r1, r2]); (case he => simp [r1, r2]; exact is_rfl))
    | (apply op_no; (case hw => simp [r1, r2]))
    | refine op_nil ?_ | refine next_normal ?_ | refine go_seq ?_ | refine go_region ?_ | refine go_skip ?_ | refine go_block ?_ | refine inb_normal ?_
    | (apply go_yes; (case hc => simp [r1, r2])) | (apply go_no; (case hc => simp [r1, r2]))
    | refine go_exit ?_ | refine next_exit ?_ | refine inb_here ?_ | refine inb_past (by decide) ?_ | refine go_ret ?_ | refine next_ret ?_ | refine inb_ret ?_))
  (apply ends_ok; (case h1 => simp; exact is_rfl); (case h2 => simp; exact is_rfl))
  simp
  exact List.take_of_length_le (by simp)

theorem Store_eq (mem : List Int) (hm : mem.length ≤ 1000000) (hw : Words mem) (a : Nat) (s : List UInt8) (h : a + s.length ≤ 2 * mem.length) : bodyW DC 33 [.sl (ints mem), .int .i64 a, .str s] [] = some (.tuple [.own 0 mem.length 0 mem.length, .int .i64 0], [.dat true 1 (ints (storeN mem a s s.length))]) := by
  have v1 := within_ok mem hm a s.length h
  have v2 := mcopied_eq mem hm
  (refine gives_iff ?_; refine go_func Tryz.f33 rfl rfl (by simp [Tryz.f33]) ?_; dsimp only [codeL, Tryz.f33, scL, sopsL, guardL, dstAt, loopKey])
  (repeat (first
    | (apply is_ok; (case hw => simp [v1, v2]); (case he => simp [v1, v2]; exact is_rfl))
    | (apply op_no; (case hw => simp [v1, v2]))
    | refine op_nil ?_ | refine next_normal ?_ | refine go_seq ?_ | refine go_region ?_ | refine go_skip ?_ | refine go_block ?_ | refine inb_normal ?_
    | (apply go_yes; (case hc => simp [v1, v2])) | (apply go_no; (case hc => simp [v1, v2]))
    | refine go_exit ?_ | refine next_exit ?_ | refine inb_here ?_ | refine inb_past (by decide) ?_ | refine go_ret ?_ | refine next_ret ?_ | refine inb_ret ?_))
  refine go_count s.length (fun i => [(1, .int .i64 a), (2, .str s), (8, .own 0 mem.length 0 mem.length), (21, .int .i64 s.length), (22, .int .i64 i)]) (fun i => [.dat true 1 (ints (storeN mem a s i))]) (fun _ => True) (by simp [storeN]) trivial fun i hi _ => ?_
  by_cases hlt : i < s.length
  · have g1 : (i : Int) < s.length := by omega
    have w1 : IntKind.i64.wrap ((i : Int) + 1) = (i : Int) + 1 := wrap_id (by omega) (by omega)
    obtain ⟨A, hA⟩ : ∃ A, A = a + i := ⟨_, rfl⟩
    have w2 : IntKind.i64.wrap ((a : Int) + i) = (A : Int) := by rw [hA, wrap_id (by omega) (by omega)]; omega
    obtain ⟨w, hwd⟩ : ∃ w, w = A / 2 := ⟨_, rfl⟩
    have q1 : (A : Int).tdiv 2 = (w : Int) := by rw [Int.tdiv_eq_ediv_of_nonneg (by omega)]; omega
    have q3 : IntKind.i64.wrap (w : Int) = (w : Int) := wrap_id (by omega) (by omega)
    have z0 : IntKind.i64.wrap 0 = 0 := rfl
    have z8 : IntKind.i64.wrap 8 = 8 := rfl
    have z9 : IntKind.i64.wrap 255 = 255 := rfl
    have za : IntKind.i64.wrap 65280 = 65280 := rfl
    have mb : min 8 IntKind.i64.bits = 8 := rfl
    generalize hM : storeN mem a s i = M
    have hML : M.length = mem.length := by rw [← hM]; simp
    have hMW : Words M := by rw [← hM]; exact storeN_words hw a s i
    have hwl : w < M.length := by omega
    have hwl2 : w < mem.length := by omega
    have g2 : M[w]? = some M[w] := List.getElem?_eq_getElem hwl
    have g3 : s[i]? = some s[i] := List.getElem?_eq_getElem hlt
    have bw := hMW _ (List.getElem_mem hwl)
    have hst : storeN mem a s (i + 1) = M.set w (updB M[w] (A % 2) s[i]) := by
      rw [storeN, hM, setByte, ← hA, ← hwd, List.getD_eq_getElem?_getD, List.getD_eq_getElem?_getD, g2, g3]
      rfl
    have p0 := put_lo M[w] s[i] bw
    have p1 := put_hi M[w] s[i] bw
    have k1 : IntKind.i64.wrap (s[i].toNat : Int) = s[i].toNat := i64_small (by have := s[i].toNat_lt; omega)
    have k2 : IntKind.i64.wrap ((s[i].toNat : Int) * 256) = (s[i].toNat : Int) * 256 := wrap_id (by omega) (by have := s[i].toNat_lt; omega)
    rcases Nat.mod_two_eq_zero_or_one A with h0 | h0
    · have q2 : (A : Int).tmod 2 = 0 := by rw [Int.tmod_eq_emod_of_nonneg (by omega)]; omega
      rw [h0] at hst
      (repeat (first
    | (apply is_ok; (case hw => simp [-intOp, p0, g1, g2, g3, hlt, w1, w2, q1, q2, q3, z0, z8, hwl, hwl2, hML, shiftOp, k1, z9]); (case he => simp [-intOp, p0, g1, g2, g3, hlt, w1, w2, q1, q2, q3, z0, z8, hwl, hwl2, hML, shiftOp, k1, z9]; exact is_rfl))
    | (apply op_no; (case hw => simp [-intOp, p0, g1, g2, g3, hlt, w1, w2, q1, q2, q3, z0, z8, hwl, hwl2, hML, shiftOp, k1, z9]))
    | refine op_nil ?_ | refine next_normal ?_ | refine go_seq ?_ | refine go_region ?_ | refine go_skip ?_ | refine go_block ?_ | refine inb_normal ?_
    | (apply go_yes; (case hc => simp [-intOp, p0, g1, g2, g3, hlt, w1, w2, q1, q2, q3, z0, z8, hwl, hwl2, hML, shiftOp, k1, z9])) | (apply go_no; (case hc => simp [-intOp, p0, g1, g2, g3, hlt, w1, w2, q1, q2, q3, z0, z8, hwl, hwl2, hML, shiftOp, k1, z9]))
    | refine go_exit ?_ | refine next_exit ?_ | refine inb_here ?_ | refine inb_past (by decide) ?_ | refine go_ret ?_ | refine next_ret ?_ | refine inb_ret ?_))
      exact ⟨hlt, by simp [w1, hst, List.map_set, hML], trivial⟩
    · have q2 : (A : Int).tmod 2 = 1 := by rw [Int.tmod_eq_emod_of_nonneg (by omega)]; omega
      rw [h0] at hst
      (repeat (first
    | (apply is_ok; (case hw => simp [-intOp, p1, g1, g2, g3, hlt, w1, w2, q1, q2, q3, z0, z8, hwl, hwl2, hML, shiftOp, k1, k2, za, mb]); (case he => simp [-intOp, p1, g1, g2, g3, hlt, w1, w2, q1, q2, q3, z0, z8, hwl, hwl2, hML, shiftOp, k1, k2, za, mb]; exact is_rfl))
    | (apply op_no; (case hw => simp [-intOp, p1, g1, g2, g3, hlt, w1, w2, q1, q2, q3, z0, z8, hwl, hwl2, hML, shiftOp, k1, k2, za, mb]))
    | refine op_nil ?_ | refine next_normal ?_ | refine go_seq ?_ | refine go_region ?_ | refine go_skip ?_ | refine go_block ?_ | refine inb_normal ?_
    | (apply go_yes; (case hc => simp [-intOp, p1, g1, g2, g3, hlt, w1, w2, q1, q2, q3, z0, z8, hwl, hwl2, hML, shiftOp, k1, k2, za, mb])) | (apply go_no; (case hc => simp [-intOp, p1, g1, g2, g3, hlt, w1, w2, q1, q2, q3, z0, z8, hwl, hwl2, hML, shiftOp, k1, k2, za, mb]))
    | refine go_exit ?_ | refine next_exit ?_ | refine inb_here ?_ | refine inb_past (by decide) ?_ | refine go_ret ?_ | refine next_ret ?_ | refine inb_ret ?_))
      exact ⟨hlt, by simp [w1, hst, List.map_set, hML], trivial⟩
  · have : i = s.length := by omega
    subst this
    (repeat (first
    | (apply is_ok; (case hw => simp); (case he => simp; exact is_rfl))
    | (apply op_no; (case hw => simp))
    | refine op_nil ?_ | refine next_normal ?_ | refine go_seq ?_ | refine go_region ?_ | refine go_skip ?_ | refine go_block ?_ | refine inb_normal ?_
    | (apply go_yes; (case hc => simp)) | (apply go_no; (case hc => simp))
    | refine go_exit ?_ | refine next_exit ?_ | refine inb_here ?_ | refine inb_past (by decide) ?_ | refine go_ret ?_ | refine next_ret ?_ | refine inb_ret ?_))
    (apply ends_ok; (case h1 => simp; exact is_rfl); (case h2 => simp; exact is_rfl))
    simp
end Go.Abs

