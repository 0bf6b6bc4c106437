/- Proved here: what functions of the program compute, over the evaluator. No condition but those that each theorem states. -/
import Derived.Test.YthpkihimboiglaaH2
namespace Go.Abs
open Go.Proofs
set_option maxRecDepth 100000
set_option linter.unusedSimpArgs false
set_option linter.unusedVariables false

def BigP (a : Ex) : Prop := 0 ≤ a.1 ∧ a.1 ≤ 4000000 ∧ 0 ≤ a.2 ∧ a.2 ≤ 4000000

theorem fit1_eq (y x w : Ex) (st : List Int) (hy : BigP y) (hx : BigP x) : bodyW DC 34 [.agg [.int .i64 y.1, .int .i64 y.2], .ptr 2 1 0 0] [.box (.agg [.int .i64 w.1, .int .i64 w.2]), .dat true 1 (ints st), .box (.agg [.int .i64 x.1, .int .i64 x.2])] =
    some (.bool (decide (meetP x y)), [.box (.agg [.int .i64 w.1, .int .i64 w.2]), .dat true 1 (ints st), .box (.agg [.int .i64 x.1, .int .i64 x.2])]) := by
  have v1 := meet_eq x y hx hy
  (refine gives_iff ?_; refine go_func Try.f34 rfl rfl (by simp [Try.f34]) ?_; dsimp only [codeL, Try.f34, scL, sopsL, guardL, dstAt, loopKey])
  (repeat (first
    | (apply is_ok; (case hw => simp [v1]); (case he => simp [v1]; exact is_rfl))
    | (apply op_no; (case hw => simp [v1]))
    | refine op_nil ?_ | refine next_normal ?_ | refine go_seq ?_ | refine go_region ?_ | refine go_skip ?_ | refine go_block ?_ | refine inb_normal ?_
    | (apply go_yes; (case hc => simp [v1])) | (apply go_no; (case hc => simp [v1]))
    | refine go_exit ?_ | refine next_exit ?_ | refine inb_here ?_ | refine inb_past (by decide) ?_ | refine go_ret ?_ | refine next_ret ?_ | refine inb_ret ?_))
  (apply ends_ok; (case h1 => simp; exact is_rfl); (case h2 => simp; exact is_rfl))
  simp

@[simp] theorem callW_cap {C : Ctx} {d : Bool} {f : FuncId} {c : V} {cs xs : List V} {H : Heap} : callW C d (.fn f (c :: cs)) xs H = callW C d (.fn f []) (xs ++ c :: cs) H := by
  rw [callW_def, callW_def, List.append_nil]

/-- The index of the first extent that meets another one. -/
def idxI (x : Ex) (l : List Ex) : Int := match l.findIdx? (fun y => decide (meetP x y)) with | some i => (i : Int) | none => -1
theorem idxI_iff (x : Ex) (l : List Ex) : 0 ≤ idxI x l ↔ ∃ y ∈ l, meetP x y := by
  unfold idxI
  cases hc : l.findIdx? (fun y => decide (meetP x y)) with
  | none =>
    rw [List.findIdx?_eq_none_iff] at hc
    simp only [decide_eq_false_iff_not] at hc
    constructor
    · intro h; exact absurd h (by decide)
    · rintro ⟨y, hy, hm⟩; exact absurd hm (hc y hy)
  | some i =>
    rw [List.findIdx?_eq_some_iff_getElem] at hc
    obtain ⟨hi, hm, _⟩ := hc
    exact ⟨fun _ => ⟨l[i], List.getElem_mem hi, by simpa using hm⟩, fun _ => by simp⟩

theorem idx_eq (l : List Ex) (hl : l.length ≤ 1000) (hb : ∀ y ∈ l, BigP y) (x w : Ex) (st : List Int) (hx : BigP x) : bodyW DC 59 [.sl (l.map exV), .fn 34 [.ptr 2 1 0 0]] [.box (.agg [.int .i64 w.1, .int .i64 w.2]), .dat true 1 (ints st), .box (.agg [.int .i64 x.1, .int .i64 x.2])] =
    some (.int .i64 (idxI x l), [.box (.agg [.int .i64 w.1, .int .i64 w.2]), .dat true 1 (ints st), .box (.agg [.int .i64 x.1, .int .i64 x.2])]) := by
  generalize hR : idxI x l = R
  unfold idxI at hR
  (refine gives_iff ?_; refine go_func Try.f59 rfl rfl (by simp [Try.f59]) ?_; dsimp only [codeL, Try.f59, scL, sopsL, guardL, dstAt, loopKey])
  (repeat (first
    | (apply is_ok; (case hw => simp); (case he => simp; exact is_rfl))
    | (apply op_no; (case hw => simp))
    | refine op_nil ?_ | refine next_normal ?_ | refine go_seq ?_ | refine go_region ?_ | refine go_skip ?_ | refine go_block ?_ | refine inb_normal ?_
    | (apply go_yes; (case hc => simp)) | (apply go_no; (case hc => simp))
    | refine go_exit ?_ | refine next_exit ?_ | refine inb_here ?_ | refine inb_past (by decide) ?_ | refine go_ret ?_ | refine next_ret ?_ | refine inb_ret ?_))
  refine go_count l.length (fun i => [(0, .sl (l.map exV)), (1, .fn 34 [.ptr 2 1 0 0]), (7, .int .i64 l.length), (8, .int .i64 i)]) (fun _ => [.box (.agg [.int .i64 w.1, .int .i64 w.2]), .dat true 1 (ints st), .box (.agg [.int .i64 x.1, .int .i64 x.2])]) (fun i => ∀ j (h : j < l.length), j < i → ¬ meetP x l[j]) (by simp) (fun j _ h => absurd h (Nat.not_lt_zero j)) fun i hi hI => ?_
  by_cases hlt : i < l.length
  · have g1 : (i : Int) < l.length := by omega
    have g2 : l[i]? = some l[i] := List.getElem?_eq_getElem hlt
    have w1 : IntKind.i64.wrap ((i : Int) + 1) = (i : Int) + 1 := wrap_id (by omega) (by omega)
    have v1 := fit1_eq l[i] x w st (hb _ (List.getElem_mem hlt)) hx
    by_cases hm : meetP x l[i]
    · rw [decide_eq_true hm] at v1
      have hf : l.findIdx? (fun y => decide (meetP x y)) = some i := by
        rw [List.findIdx?_eq_some_iff_getElem]
        exact ⟨hlt, by simpa using hm, fun j hj => by simpa using hI j (by omega) hj⟩
      rw [hf] at hR
      simp only at hR
      subst hR
      (repeat (first
    | (apply is_ok; (case hw => simp [g1, g2, hlt, v1, exV]); (case he => simp [g1, g2, hlt, v1, exV]; exact is_rfl))
    | (apply op_no; (case hw => simp [g1, g2, hlt, v1, exV]))
    | refine op_nil ?_ | refine next_normal ?_ | refine go_seq ?_ | refine go_region ?_ | refine go_skip ?_ | refine go_block ?_ | refine inb_normal ?_
    | (apply go_yes; (case hc => simp [g1, g2, hlt, v1, exV])) | (apply go_no; (case hc => simp [g1, g2, hlt, v1, exV]))
    | refine go_exit ?_ | refine next_exit ?_ | refine inb_here ?_ | refine inb_past (by decide) ?_ | refine go_ret ?_ | refine next_ret ?_ | refine inb_ret ?_))
      (apply ends_ok; (case h1 => simp; exact is_rfl); (case h2 => simp; exact is_rfl))
      simp
    · rw [decide_eq_false hm] at v1
      (repeat (first
    | (apply is_ok; (case hw => simp [g1, g2, hlt, v1, w1, exV]); (case he => simp [g1, g2, hlt, v1, w1, exV]; exact is_rfl))
    | (apply op_no; (case hw => simp [g1, g2, hlt, v1, w1, exV]))
    | refine op_nil ?_ | refine next_normal ?_ | refine go_seq ?_ | refine go_region ?_ | refine go_skip ?_ | refine go_block ?_ | refine inb_normal ?_
    | (apply go_yes; (case hc => simp [g1, g2, hlt, v1, w1, exV])) | (apply go_no; (case hc => simp [g1, g2, hlt, v1, w1, exV]))
    | refine go_exit ?_ | refine next_exit ?_ | refine inb_here ?_ | refine inb_past (by decide) ?_ | refine go_ret ?_ | refine next_ret ?_ | refine inb_ret ?_))
      exact ⟨hlt, by simp [exV, w1], fun j h hj => by
        rcases Nat.lt_or_ge j i with h1 | h1
        · exact hI j h h1
        · have : j = i := by omega
          subst this
          exact hm⟩
  · have g1 : ¬ (i : Int) < l.length := by omega
    have hf : l.findIdx? (fun y => decide (meetP x y)) = none := by
      rw [List.findIdx?_eq_none_iff]
      intro y hy
      obtain ⟨j, hj, rfl⟩ := List.mem_iff_getElem.1 hy
      simpa using hI j hj (by omega)
    rw [hf] at hR
    simp only at hR
    subst hR
    (repeat (first
    | (apply is_ok; (case hw => simp [g1]); (case he => simp [g1]; exact is_rfl))
    | (apply op_no; (case hw => simp [g1]))
    | refine op_nil ?_ | refine next_normal ?_ | refine go_seq ?_ | refine go_region ?_ | refine go_skip ?_ | refine go_block ?_ | refine inb_normal ?_
    | (apply go_yes; (case hc => simp [g1])) | (apply go_no; (case hc => simp [g1]))
    | refine go_exit ?_ | refine next_exit ?_ | refine inb_here ?_ | refine inb_past (by decide) ?_ | refine go_ret ?_ | refine next_ret ?_ | refine inb_ret ?_))
    (apply ends_ok; (case h1 => simp; exact is_rfl); (case h2 => simp; exact is_rfl))
    simp

theorem cont_eq (l : List Ex) (hl : l.length ≤ 1000) (hb : ∀ y ∈ l, BigP y) (x w : Ex) (st : List Int) (hx : BigP x) : bodyW DC 33 [.sl (l.map exV), .fn 34 [.ptr 2 1 0 0]] [.box (.agg [.int .i64 w.1, .int .i64 w.2]), .dat true 1 (ints st), .box (.agg [.int .i64 x.1, .int .i64 x.2])] =
    some (.bool (decide (∃ y ∈ l, meetP x y)), [.box (.agg [.int .i64 w.1, .int .i64 w.2]), .dat true 1 (ints st), .box (.agg [.int .i64 x.1, .int .i64 x.2])]) := by
  have v1 := idx_eq l hl hb x w st hx
  have v2 := idxI_iff x l
  generalize idxI x l = r at v1 v2
  (refine gives_iff ?_; refine go_func Try.f33 rfl rfl (by simp [Try.f33]) ?_; dsimp only [codeL, Try.f33, scL, sopsL, guardL, dstAt, loopKey])
  (repeat (first
    | (apply is_ok; (case hw => simp [v1]); (case he => simp [v1]; exact is_rfl))
    | (apply op_no; (case hw => simp [v1]))
    | refine op_nil ?_ | refine next_normal ?_ | refine go_seq ?_ | refine go_region ?_ | refine go_skip ?_ | refine go_block ?_ | refine inb_normal ?_
    | (apply go_yes; (case hc => simp [v1])) | (apply go_no; (case hc => simp [v1]))
    | refine go_exit ?_ | refine next_exit ?_ | refine inb_here ?_ | refine inb_past (by decide) ?_ | refine go_ret ?_ | refine next_ret ?_ | refine inb_ret ?_))
  (apply ends_ok; (case h1 => simp; exact is_rfl); (case h2 => simp; exact is_rfl))
  exact ⟨by congr 1; exact decide_eq_decide.2 v2, rfl⟩
end Go.Abs
