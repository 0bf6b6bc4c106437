/- Proved here: what functions of the program compute, over the evaluator. No condition but those that each theorem states. -/
import Derived.Test.YtbnnaaadblpgiaaGreatTF
namespace Go.Abs
open Go.Proofs
set_option maxRecDepth 100000
set_option linter.unusedSimpArgs false
set_option linter.unusedVariables false

theorem map_of {α : Type} {es : List V} {f : α → V} {p : α → Prop} (h : ∀ x ∈ es, ∃ a, x = f a ∧ p a) : ∃ l : List α, es = l.map f ∧ ∀ a ∈ l, p a := by
  induction es with
  | nil => exact ⟨[], rfl, by simp⟩
  | cons x es ih =>
    obtain ⟨l, rfl, h2⟩ := ih fun y hy => h y (List.mem_cons_of_mem _ hy)
    obtain ⟨a, rfl, h3⟩ := h x (List.mem_cons_self ..)
    exact ⟨a :: l, rfl, fun b hb => by
      rcases List.mem_cons.1 hb with rfl | hb
      · exact h3
      · exact h2 b hb⟩

theorem cells_one {x : V} (h : x.isAgg = false) : x.cells = [x] := by cases x <;> first | rfl | cases h
theorem cells_some {x : V} (h : x.isAgg = true) : ∃ cs, x = .agg cs := by cases x <;> first | exact ⟨_, rfl⟩ | cases h

section
variable {P : Program} {n : Nat} {t e : TypeId} {x : V}
theorem hasT_pos {xs : List V} (h : HasT P n t xs) : ∃ m, n = m + 1 := by
  cases n with
  | zero => exact h.elim
  | succ m => exact ⟨m, rfl⟩
theorem hasT_int {k : IntKind} (hu : P.underlying t = some (.int k)) {xs : List V} (h : HasT P n t xs) : ∃ m, xs = [.int k m] ∧ (Lit.int k m).wf = true := by
  obtain ⟨m, rfl⟩ := hasT_pos h
  simpa only [HasT, hu] using h
theorem hasT_str (hu : P.underlying t = some .string) {xs : List V} (h : HasT P n t xs) : ∃ s : List UInt8, xs = [.str s] ∧ s.length ≤ maxLen := by
  obtain ⟨m, rfl⟩ := hasT_pos h
  simpa only [HasT, hu] using h
theorem hasT_bool (hu : P.underlying t = some .bool) {xs : List V} (h : HasT P n t xs) : ∃ b, xs = [.bool b] := by
  obtain ⟨m, rfl⟩ := hasT_pos h
  simpa only [HasT, hu] using h
theorem hasT_slice (hu : P.underlying t = some (.slice e)) (hc : P.cellsOf e ≠ 0) {xs : List V} (h : HasT P n t xs) : ∃ m es, n = m + 1 ∧ xs = [.sl es] ∧ es.length ≤ maxLen ∧ ∀ x ∈ es, aggT P e = some x.isAgg ∧ HasT P m e x.cells := by
  obtain ⟨m, rfl⟩ := hasT_pos h
  simp only [HasT, hu, if_neg hc] at h
  obtain ⟨es, h1, h2, h3⟩ := h
  exact ⟨m, es, rfl, h1, h2, h3⟩
theorem hasT_strs (hu : P.underlying t = some (.slice e)) (hc : P.cellsOf e ≠ 0) (he : P.underlying e = some .string) {xs : List V} (h : HasT P n t xs) : ∃ S : List (List UInt8), xs = [.sl (S.map V.str)] ∧ S.length ≤ maxLen ∧ ∀ s ∈ S, s.length ≤ maxLen := by
  obtain ⟨m, es, rfl, rfl, h1, h2⟩ := hasT_slice hu hc h
  have hag : aggT P e = some false := by simp [aggT, he]
  obtain ⟨S, rfl, h3⟩ := map_of (p := fun s => s.length ≤ maxLen) (f := V.str) fun x hx => by
    obtain ⟨h3, h4⟩ := h2 x hx
    rw [hag] at h3
    obtain ⟨s, h5, h6⟩ := hasT_str he h4
    rw [cells_one (Option.some.inj h3).symm] at h5
    cases h5
    exact ⟨s, rfl, h6⟩
  exact ⟨S, rfl, by simpa using h1, h3⟩
theorem hasT_ints {k : IntKind} (hu : P.underlying t = some (.slice e)) (hc : P.cellsOf e ≠ 0) (he : P.underlying e = some (.int k)) {xs : List V} (h : HasT P n t xs) : ∃ S : List Int, xs = [.sl (S.map (V.int k))] ∧ S.length ≤ maxLen ∧ ∀ s ∈ S, (Lit.int k s).wf = true := by
  obtain ⟨m, es, rfl, rfl, h1, h2⟩ := hasT_slice hu hc h
  have hag : aggT P e = some false := by simp [aggT, he]
  obtain ⟨S, rfl, h3⟩ := map_of (p := fun s => (Lit.int k s).wf = true) (f := V.int k) fun x hx => by
    obtain ⟨h3, h4⟩ := h2 x hx
    rw [hag] at h3
    obtain ⟨s, h5, h6⟩ := hasT_int he h4
    rw [cells_one (Option.some.inj h3).symm] at h5
    cases h5
    exact ⟨s, rfl, h6⟩
  exact ⟨S, rfl, by simpa using h1, h3⟩
theorem hasT_struct {fs : Array Field} (hu : P.underlying t = some (.struct fs)) {xs : List V} (h : HasT P n t xs) : ∃ m, n = m + 1 ∧ xs.length = P.cellsOf t ∧ ∀ (i : Nat) (f : Field), fs[i]? = some f → HasT P m f.type ((xs.drop f.offset).take (P.cellsOf f.type)) := by
  obtain ⟨m, rfl⟩ := hasT_pos h
  simp only [HasT, hu] at h
  exact ⟨m, rfl, h.1, fun i f hf => h.2 f (by simpa using Array.mem_of_getElem? hf)⟩
theorem int_of {k : IntKind} (hu : P.underlying t = some (.int k)) (h : ArgT P t x) : ∃ m, x = .int k m ∧ (Lit.int k m).wf = true := by
  obtain ⟨n, h1, h2⟩ := h
  rw [show aggT P t = some false by simp [aggT, hu]] at h2
  rw [cells_one (Option.some.inj h2).symm] at h1
  obtain ⟨m, h3, h4⟩ := hasT_int hu h1
  cases h3
  exact ⟨m, rfl, h4⟩
theorem str_of (hu : P.underlying t = some .string) (h : ArgT P t x) : ∃ s : List UInt8, x = .str s ∧ s.length ≤ maxLen := by
  obtain ⟨n, h1, h2⟩ := h
  rw [show aggT P t = some false by simp [aggT, hu]] at h2
  rw [cells_one (Option.some.inj h2).symm] at h1
  obtain ⟨m, h3, h4⟩ := hasT_str hu h1
  cases h3
  exact ⟨m, rfl, h4⟩
theorem wf_i64 {m : Int} (h : (Lit.int .i64 m).wf = true) : -9223372036854775808 ≤ m ∧ m ≤ 9223372036854775807 := by
  simpa [Lit.wf, IntKind.min, IntKind.max, IntKind.signed, IntKind.bits] using h
end

theorem cells_ne {P : Program} {e : TypeId} {n : Nat} (h : P.cellsOf e = n) (hn : n ≠ 0) : P.cellsOf e ≠ 0 := by rw [h]; exact hn

theorem wf_u8 {m : Int} (h : (Lit.int .u8 m).wf = true) : 0 ≤ m ∧ m ≤ 255 := by
  simpa [Lit.wf, IntKind.min, IntKind.max, IntKind.signed, IntKind.bits] using h
theorem u8_of {t : TypeId} {P : Program} {x : V} (hu : P.underlying t = some (.int .u8)) (h : ArgT P t x) : ∃ k : Nat, x = .int .u8 k ∧ k ≤ 255 := by
  obtain ⟨m, rfl, h1⟩ := int_of hu h
  obtain ⟨h2, h3⟩ := wf_u8 h1
  exact ⟨m.toNat, by rw [Int.toNat_of_nonneg h2], by omega⟩
end Go.Abs

namespace Go.Abs
open Go.Proofs
set_option maxRecDepth 100000
set_option linter.unusedSimpArgs false
set_option linter.unusedVariables false

/-- A cell that leads to nothing of a call's own. -/
def PlainV (x : V) : Prop := (∀ H, sealV H x = some (x, [])) ∧ refs x = [] ∧ (∀ ρ, ren ρ x = x) ∧ x.storable = true ∧ x.isAgg = false
theorem plain_bool (b : Bool) : PlainV (.bool b) := ⟨fun _ => rfl, rfl, fun _ => rfl, rfl, rfl⟩
theorem plain_int (k : IntKind) (n : Int) : PlainV (.int k n) := ⟨fun _ => rfl, rfl, fun _ => rfl, rfl, rfl⟩
theorem plain_str (s : List UInt8) : PlainV (.str s) := ⟨fun _ => rfl, rfl, fun _ => rfl, rfl, rfl⟩
theorem plain_sl (es : List V) : PlainV (.sl es) := ⟨fun _ => rfl, rfl, fun _ => rfl, rfl, rfl⟩

/-- Is all of a type plain? -/
def plainT (P : Program) : Nat → TypeId → Bool
  | 0, _ => false
  | n + 1, t => match P.underlying t with
    | some .bool | some (.int _) | some .string => true
    | some (.slice e) => P.cellsOf e != 0
    | some (.struct fs) => (fs.toList.all fun f => plainT P n f.type) && (List.range (P.cellsOf t)).all fun j => fs.toList.any fun f => decide (f.offset ≤ j) && decide (j < f.offset + P.cellsOf f.type)
    | some (.array m e) => plainT P n e && decide (P.cellsOf t ≤ m * P.cellsOf e)
    | _ => false

theorem mem_part {xs : List V} {j o n : Nat} (h : j < xs.length) (h1 : o ≤ j) (h2 : j < o + n) : xs[j] ∈ (xs.drop o).take n := by
  have : xs[j] = ((xs.drop o).take n)[j - o]'(by simp; omega) := by simp [show o + (j - o) = j by omega]
  rw [this]
  exact List.getElem_mem _

theorem hasT_plain {P : Program} : ∀ (k n : Nat) (t : TypeId) (xs : List V), plainT P k t = true → HasT P n t xs → ∀ x ∈ xs, PlainV x
  | 0, _, _, _, h, _ => by cases h
  | k + 1, 0, _, _, _, h => h.elim
  | k + 1, n + 1, t, xs, hk, h => by
    intro x hx
    simp only [plainT] at hk
    simp only [HasT] at h
    cases hu : P.underlying t with
    | none => rw [hu] at hk; cases hk
    | some d =>
      rw [hu] at hk h
      cases d
      case bool => obtain ⟨b, rfl⟩ := h; rw [List.mem_singleton.1 hx]; exact plain_bool b
      case int kk => obtain ⟨m, rfl, _⟩ := h; rw [List.mem_singleton.1 hx]; exact plain_int kk m
      case string => obtain ⟨s, rfl, _⟩ := h; rw [List.mem_singleton.1 hx]; exact plain_str s
      case slice e =>
        have hc : P.cellsOf e ≠ 0 := by simpa using hk
        simp only [if_neg hc] at h
        obtain ⟨es, rfl, _⟩ := h
        rw [List.mem_singleton.1 hx]; exact plain_sl es
      case struct fs =>
        simp only [Bool.and_eq_true, List.all_eq_true, List.mem_range, List.any_eq_true, decide_eq_true_eq] at hk
        obtain ⟨j, hj, rfl⟩ := List.mem_iff_getElem.1 hx
        obtain ⟨f, hf, h1, h2⟩ := hk.2 j (by rw [← h.1]; exact hj)
        exact hasT_plain k n f.type _ (hk.1 f hf) (h.2 f hf) _ (mem_part hj h1 h2)
      case array m e =>
        simp only [Bool.and_eq_true, decide_eq_true_eq] at hk
        obtain ⟨j, hj, rfl⟩ := List.mem_iff_getElem.1 hx
        have hj' : j < m * P.cellsOf e := by have := h.1; omega
        have hc : 0 < P.cellsOf e := by
          rcases Nat.eq_zero_or_pos (P.cellsOf e) with h0 | h0
          · rw [h0] at hj'; omega
          · exact h0
        have h1 : j / P.cellsOf e < m := (Nat.div_lt_iff_lt_mul hc).2 hj'
        have h2 := Nat.div_add_mod j (P.cellsOf e)
        have h3 := Nat.mod_lt j hc
        rw [Nat.mul_comm] at h2
        exact hasT_plain k n e _ hk.1 (h.2 _ h1) _ (mem_part hj (by omega) (by omega))
      all_goals (simp only at hk; cases hk)

section
variable {H : Heap} {ρ : Nat → Option Nat}
theorem plain_sealL : ∀ (l : List V), (∀ x ∈ l, PlainV x) → sealL H l = some (l, [])
  | [], _ => rfl
  | x :: l, h => by rw [sealL, (h x (by simp)).1, plain_sealL l fun y hy => h y (by simp [hy])]; rfl
theorem plain_refsL : ∀ (l : List V), (∀ x ∈ l, PlainV x) → refsL l = []
  | [], _ => rfl
  | x :: l, h => by rw [refsL, (h x (by simp)).2.1, plain_refsL l fun y hy => h y (by simp [hy])]; rfl
theorem plain_renL : ∀ (l : List V), (∀ x ∈ l, PlainV x) → renL ρ l = l
  | [], _ => rfl
  | x :: l, h => by rw [renL, (h x (by simp)).2.2.1, plain_renL l fun y hy => h y (by simp [hy])]
end

theorem hasT_array {P : Program} {n m : Nat} {t e : TypeId} (hu : P.underlying t = some (.array m e)) {xs : List V} (h : HasT P n t xs) : ∃ k, n = k + 1 ∧ xs.length = P.cellsOf t ∧ ∀ i, i < m → HasT P k e ((xs.drop (i * P.cellsOf e)).take (P.cellsOf e)) := by
  obtain ⟨k, rfl⟩ := hasT_pos h
  simp only [HasT, hu] at h
  exact ⟨k, rfl, h⟩

/-- Some plain cells. -/
structure Cs (n : Nat) where
  l : List V
  len : l.length = n
  pl : ∀ x ∈ l, PlainV x

section
variable {P : Program} {t : TypeId} {z : TypeInfo} {off : Nat} {pre mid post : List V}
theorem sub_agg (hz : P.info? t = some z) (ha : aggT P t = some true) (hp : pre.length = off) (hm : mid.length = z.size) : sub P t (.agg (pre ++ (mid ++ post))) off = some (.agg mid) := by
  unfold sub
  rw [hz]
  simp only [Option.map_some, V.cells, V.isAgg, ha, and_true]
  split
  · rename_i h
    have h1 : pre = [] := List.eq_nil_of_length_eq_zero (by omega)
    have h2 : post = [] := List.eq_nil_of_length_eq_zero (by have := h.2; simp [h1] at this; omega)
    simp [h1, h2]
  · refine (if_pos (by simp; omega)).trans ?_
    unfold mk
    rw [ha]
    simp [← hp, ← hm]
theorem sub_one {x : V} (hz : P.info? t = some z) (ha : aggT P t = some false) (hp : pre.length = off) (hm : z.size = 1) (hx : x.isAgg = false) : sub P t (.agg (pre ++ x :: post)) off = some x := by
  unfold sub
  rw [hz]
  simp only [Option.map_some, V.cells, V.isAgg, ha, Option.some.injEq, Bool.true_eq_false, and_false, if_false]
  refine (if_pos (by simp; omega)).trans ?_
  unfold mk
  rw [ha, hm]
  simp [← hp, hx]
theorem setSub_agg {mid' : List V} (hp : pre.length = off) (hm : mid'.length = mid.length) : setSub (.agg (pre ++ (mid ++ post))) off (.agg mid') = some (.agg (pre ++ (mid' ++ post))) := by
  unfold setSub
  simp only [V.cells, V.isAgg, true_and]
  split
  · rename_i h
    have h1 : pre = [] := List.eq_nil_of_length_eq_zero (by omega)
    have h2 : post = [] := List.eq_nil_of_length_eq_zero (by have := h.2; simp [h1] at this; omega)
    simp [h1, h2]
  · refine (if_pos (by simp; omega)).trans ?_
    simp [← hp, hm, ← Nat.add_assoc]
theorem setSub_one {x y : V} (hp : pre.length = off) (hx : y.isAgg = false) : setSub (.agg (pre ++ x :: post)) off y = some (.agg (pre ++ y :: post)) := by
  have hc : y.cells = [y] := cells_one hx
  unfold setSub
  simp only [hx, hc]
  refine (if_neg (by simp)).trans ((if_pos (by simp; omega)).trans ?_)
  simp [← hp]
end
end Go.Abs

namespace Go.Abs
open Go.Proofs
set_option maxRecDepth 100000
set_option linter.unusedSimpArgs false

theorem zeros_eq (n : Nat) (hn : n ≤ 1000000) : bodyW DC 64 [.int .i64 n] [] = some (.str (List.replicate n 0), []) := by
  (refine gives_iff ?_; refine go_func Tryz.f64 rfl rfl (by simp [Tryz.f64]) ?_; dsimp only [codeL, Tryz.f64, scL, sopsL, guardL, dstAt, loopKey])
  (repeat (first
    | (apply is_ok; (case hw => simp); (case he => simp; exact is_rfl))
    | (apply op_no; (case hw => simp))
    | refine op_nil ?_ | refine next_normal ?_ | refine go_seq ?_ | refine go_region ?_ | refine go_skip ?_ | refine go_block ?_ | refine inb_normal ?_
    | (apply go_yes; (case hc => simp)) | (apply go_no; (case hc => simp))
    | refine go_exit ?_ | refine next_exit ?_ | refine inb_here ?_ | refine inb_past (by decide) ?_ | refine go_ret ?_ | refine next_ret ?_ | refine inb_ret ?_))
  refine go_count n (fun i => [(0, .int .i64 n), (3, .own 0 i 0 i), (4, .int .i64 i)]) (fun i => [.dat true 1 (List.replicate i (.int .u8 0))]) (fun _ => True) (by simp) trivial fun i hi _ => ?_
  have hr : i + 1 ≤ room := by unfold room; omega
  have hw : IntKind.i64.wrap ((i : Int) + 1) = (i : Int) + 1 := wrap_id (by omega) (by omega)
  by_cases hlt : i < n
  · (repeat (first
    | (apply is_ok; (case hw => simp [hlt, hr]); (case he => simp [hlt, hr]; exact is_rfl))
    | (apply op_no; (case hw => simp [hlt, hr]))
    | refine op_nil ?_ | refine next_normal ?_ | refine go_seq ?_ | refine go_region ?_ | refine go_skip ?_ | refine go_block ?_ | refine inb_normal ?_
    | (apply go_yes; (case hc => simp [hlt, hr])) | (apply go_no; (case hc => simp [hlt, hr]))
    | refine go_exit ?_ | refine next_exit ?_ | refine inb_here ?_ | refine inb_past (by decide) ?_ | refine go_ret ?_ | refine next_ret ?_ | refine inb_ret ?_))
    exact ⟨hlt, by simp [hw, List.replicate_succ'], trivial⟩
  · (repeat (first
    | (apply is_ok; (case hw => simp [hlt]); (case he => simp [hlt]; exact is_rfl))
    | (apply op_no; (case hw => simp [hlt]))
    | refine op_nil ?_ | refine next_normal ?_ | refine go_seq ?_ | refine go_region ?_ | refine go_skip ?_ | refine go_block ?_ | refine inb_normal ?_
    | (apply go_yes; (case hc => simp [hlt])) | (apply go_no; (case hc => simp [hlt]))
    | refine go_exit ?_ | refine next_exit ?_ | refine inb_here ?_ | refine inb_past (by decide) ?_ | refine go_ret ?_ | refine next_ret ?_ | refine inb_ret ?_))
    (apply ends_ok; (case h1 => simp; exact is_rfl); (case h2 => simp; exact is_rfl))
    have : i = n := by omega
    simp [this]
end Go.Abs

namespace Go.Abs
open Go.Proofs
set_option maxRecDepth 100000
set_option linter.unusedSimpArgs false

/-- A drive's value. -/
abbrev drv (S : List (List UInt8)) (B : List Int) : V := .agg [.sl (strs S), .sl (ints B)]

def FairP (S : List (List UInt8)) (B : List Int) : Prop := S.length ≤ 64 ∧ B.length ≤ 80 ∧ ∀ s ∈ S, s.length ≤ 200
instance (S : List (List UInt8)) (B : List Int) : Decidable (FairP S B) := by unfold FairP; infer_instance

def RightP (S : List (List UInt8)) (B : List Int) : Prop := 1 ≤ S.length ∧ S.length ≤ 256 ∧ (∀ s ∈ S, s.length = 128) ∧ (∀ b ∈ B, 0 ≤ b ∧ b < S.length) ∧ ∀ i ∈ List.range B.length, 1 ≤ i → B.getD (i - 1) 0 < B.getD i 0
instance (S : List (List UInt8)) (B : List Int) : Decidable (RightP S B) := by unfold RightP; infer_instance

end Go.Abs

namespace Go.Abs
open Go.Proofs
set_option maxRecDepth 100000
set_option linter.unusedSimpArgs false

theorem has_eq (S : List (List UInt8)) (B : List Int) (k : Int) : bodyW DC 65 [drv S B, .int .i64 k] [] = some (.bool (decide (0 ≤ k ∧ k < S.length)), []) := by
  (refine gives_iff ?_; refine go_func Tryz.f65 rfl rfl (by simp [Tryz.f65]) ?_; dsimp only [codeL, Tryz.f65, scL, sopsL, guardL, dstAt, loopKey])
  by_cases h1 : 0 ≤ k
  · (repeat (first
    | (apply is_ok; (case hw => simp [h1]); (case he => simp [h1]; exact is_rfl))
    | (apply op_no; (case hw => simp [h1]))
    | refine op_nil ?_ | refine next_normal ?_ | refine go_seq ?_ | refine go_region ?_ | refine go_skip ?_ | refine go_block ?_ | refine inb_normal ?_
    | (apply go_yes; (case hc => simp [h1])) | (apply go_no; (case hc => simp [h1]))
    | refine go_exit ?_ | refine next_exit ?_ | refine inb_here ?_ | refine inb_past (by decide) ?_ | refine go_ret ?_ | refine next_ret ?_ | refine inb_ret ?_))
    (apply ends_ok; (case h1 => simp; exact is_rfl); (case h2 => simp; exact is_rfl))
    simp [h1]
  · (repeat (first
    | (apply is_ok; (case hw => simp [h1]); (case he => simp [h1]; exact is_rfl))
    | (apply op_no; (case hw => simp [h1]))
    | refine op_nil ?_ | refine next_normal ?_ | refine go_seq ?_ | refine go_region ?_ | refine go_skip ?_ | refine go_block ?_ | refine inb_normal ?_
    | (apply go_yes; (case hc => simp [h1])) | (apply go_no; (case hc => simp [h1]))
    | refine go_exit ?_ | refine next_exit ?_ | refine inb_here ?_ | refine inb_past (by decide) ?_ | refine go_ret ?_ | refine next_ret ?_ | refine inb_ret ?_))
    (apply ends_ok; (case h1 => simp; exact is_rfl); (case h2 => simp; exact is_rfl))
    simp [h1]

theorem Isbad_eq (S : List (List UInt8)) (B : List Int) (hB : B.length ≤ maxLen) (k : Int) : bodyW DC 63 [drv S B, .int .i64 k] [] = some (.bool (decide (k ∈ B)), []) := by
  unfold maxLen at hB
  (refine gives_iff ?_; refine go_func Tryz.f63 rfl rfl (by simp [Tryz.f63]) ?_; dsimp only [codeL, Tryz.f63, scL, sopsL, guardL, dstAt, loopKey])
  (repeat (first
    | (apply is_ok; (case hw => simp); (case he => simp; exact is_rfl))
    | (apply op_no; (case hw => simp))
    | refine op_nil ?_ | refine next_normal ?_ | refine go_seq ?_ | refine go_region ?_ | refine go_skip ?_ | refine go_block ?_ | refine inb_normal ?_
    | (apply go_yes; (case hc => simp)) | (apply go_no; (case hc => simp))
    | refine go_exit ?_ | refine next_exit ?_ | refine inb_here ?_ | refine inb_past (by decide) ?_ | refine go_ret ?_ | refine next_ret ?_ | refine inb_ret ?_))
  refine go_count B.length (fun i => [(1, .int .i64 k), (2, .ptr 0 1 0 0), (5, .int .i64 i)]) (fun _ => [.box (drv S B)]) (fun i => ∀ j (hj : j < B.length), j < i → B[j] ≠ k) (by simp) (by simp) fun i hi hI => ?_
  by_cases hlt : i < B.length
  · have hw : IntKind.i64.wrap ((i : Int) + 1) = (i : Int) + 1 := wrap_id (by omega) (by omega)
    by_cases h3 : B[i] = k
    · (repeat (first
    | (apply is_ok; (case hw => simp [hlt, h3]); (case he => simp [hlt, h3]; exact is_rfl))
    | (apply op_no; (case hw => simp [hlt, h3]))
    | refine op_nil ?_ | refine next_normal ?_ | refine go_seq ?_ | refine go_region ?_ | refine go_skip ?_ | refine go_block ?_ | refine inb_normal ?_
    | (apply go_yes; (case hc => simp [hlt, h3])) | (apply go_no; (case hc => simp [hlt, h3]))
    | refine go_exit ?_ | refine next_exit ?_ | refine inb_here ?_ | refine inb_past (by decide) ?_ | refine go_ret ?_ | refine next_ret ?_ | refine inb_ret ?_))
      (apply ends_ok; (case h1 => simp; exact is_rfl); (case h2 => simp; exact is_rfl))
      have : k ∈ B := h3 ▸ List.getElem_mem hlt
      simp [this]
    · (repeat (first
    | (apply is_ok; (case hw => simp [hlt, h3]); (case he => simp [hlt, h3]; exact is_rfl))
    | (apply op_no; (case hw => simp [hlt, h3]))
    | refine op_nil ?_ | refine next_normal ?_ | refine go_seq ?_ | refine go_region ?_ | refine go_skip ?_ | refine go_block ?_ | refine inb_normal ?_
    | (apply go_yes; (case hc => simp [hlt, h3])) | (apply go_no; (case hc => simp [hlt, h3]))
    | refine go_exit ?_ | refine next_exit ?_ | refine inb_here ?_ | refine inb_past (by decide) ?_ | refine go_ret ?_ | refine next_ret ?_ | refine inb_ret ?_))
      exact ⟨hlt, by simp [hw], fun j hj hji => by
        by_cases hje : j = i
        · subst hje; exact h3
        · exact hI j hj (by omega)⟩
  · (repeat (first
    | (apply is_ok; (case hw => simp [hlt]); (case he => simp [hlt]; exact is_rfl))
    | (apply op_no; (case hw => simp [hlt]))
    | refine op_nil ?_ | refine next_normal ?_ | refine go_seq ?_ | refine go_region ?_ | refine go_skip ?_ | refine go_block ?_ | refine inb_normal ?_
    | (apply go_yes; (case hc => simp [hlt])) | (apply go_no; (case hc => simp [hlt]))
    | refine go_exit ?_ | refine next_exit ?_ | refine inb_here ?_ | refine inb_past (by decide) ?_ | refine go_ret ?_ | refine next_ret ?_ | refine inb_ret ?_))
    (apply ends_ok; (case h1 => simp; exact is_rfl); (case h2 => simp; exact is_rfl))
    have : k ∉ B := fun h => by
      obtain ⟨j, hj, h⟩ := List.getElem_of_mem h
      exact hI j hj (by omega) h
    simp [this]

theorem RightR_eq (S : List (List UInt8)) (B : List Int) (hB : B.length ≤ maxLen) : bodyW DC 13 [drv S B] [] = some (.bool (decide (RightP S B)), []) := by
  unfold maxLen at hB
  (refine gives_iff ?_; refine go_func Tryz.f13 rfl rfl (by simp [Tryz.f13]) ?_; dsimp only [codeL, Tryz.f13, scL, sopsL, guardL, dstAt, loopKey])
  by_cases h1 : 1 ≤ S.length
  case neg =>
    have e1 : ((S.length : Int) < 1) := by omega
    (repeat (first
    | (apply is_ok; (case hw => simp [e1]); (case he => simp [e1]; exact is_rfl))
    | (apply op_no; (case hw => simp [e1]))
    | refine op_nil ?_ | refine next_normal ?_ | refine go_seq ?_ | refine go_region ?_ | refine go_skip ?_ | refine go_block ?_ | refine inb_normal ?_
    | (apply go_yes; (case hc => simp [e1])) | (apply go_no; (case hc => simp [e1]))
    | refine go_exit ?_ | refine next_exit ?_ | refine inb_here ?_ | refine inb_past (by decide) ?_ | refine go_ret ?_ | refine next_ret ?_ | refine inb_ret ?_))
    (apply ends_ok; (case h1 => simp; exact is_rfl); (case h2 => simp; exact is_rfl))
    have : ¬ RightP S B := fun h => h1 h.1
    simp [this]
  have e1 : ¬ ((S.length : Int) < 1) := by omega
  by_cases h2 : S.length ≤ 256
  case neg =>
    have e2 : ((256 : Int) < S.length) := by omega
    (repeat (first
    | (apply is_ok; (case hw => simp [e1, e2]); (case he => simp [e1, e2]; exact is_rfl))
    | (apply op_no; (case hw => simp [e1, e2]))
    | refine op_nil ?_ | refine next_normal ?_ | refine go_seq ?_ | refine go_region ?_ | refine go_skip ?_ | refine go_block ?_ | refine inb_normal ?_
    | (apply go_yes; (case hc => simp [e1, e2])) | (apply go_no; (case hc => simp [e1, e2]))
    | refine go_exit ?_ | refine next_exit ?_ | refine inb_here ?_ | refine inb_past (by decide) ?_ | refine go_ret ?_ | refine next_ret ?_ | refine inb_ret ?_))
    (apply ends_ok; (case h1 => simp; exact is_rfl); (case h2 => simp; exact is_rfl))
    have : ¬ RightP S B := fun h => h2 h.2.1
    simp [this]
  have e2 : ¬ ((256 : Int) < S.length) := by omega
  (repeat (first
    | (apply is_ok; (case hw => simp [e1, e2]); (case he => simp [e1, e2]; exact is_rfl))
    | (apply op_no; (case hw => simp [e1, e2]))
    | refine op_nil ?_ | refine next_normal ?_ | refine go_seq ?_ | refine go_region ?_ | refine go_skip ?_ | refine go_block ?_ | refine inb_normal ?_
    | (apply go_yes; (case hc => simp [e1, e2])) | (apply go_no; (case hc => simp [e1, e2]))
    | refine go_exit ?_ | refine next_exit ?_ | refine inb_here ?_ | refine inb_past (by decide) ?_ | refine go_ret ?_ | refine next_ret ?_ | refine inb_ret ?_))
  refine go_count S.length (fun i => [(1, .ptr 0 1 0 0), (3, .int .i64 i)]) (fun _ => [.box (drv S B)]) (fun i => ∀ j (hj : j < S.length), j < i → S[j].length = 128) (by simp) (by simp) fun i hi hI => ?_
  have hw : IntKind.i64.wrap ((i : Int) + 1) = (i : Int) + 1 := wrap_id (by omega) (by omega)
  by_cases hlt : i < S.length
  · by_cases h3 : S[i].length = 128
    · have e3 : ((S[i].length : Int) = 128) := by omega
      (repeat (first
    | (apply is_ok; (case hw => simp [hlt, h3, e3]); (case he => simp [hlt, h3, e3]; exact is_rfl))
    | (apply op_no; (case hw => simp [hlt, h3, e3]))
    | refine op_nil ?_ | refine next_normal ?_ | refine go_seq ?_ | refine go_region ?_ | refine go_skip ?_ | refine go_block ?_ | refine inb_normal ?_
    | (apply go_yes; (case hc => simp [hlt, h3, e3])) | (apply go_no; (case hc => simp [hlt, h3, e3]))
    | refine go_exit ?_ | refine next_exit ?_ | refine inb_here ?_ | refine inb_past (by decide) ?_ | refine go_ret ?_ | refine next_ret ?_ | refine inb_ret ?_))
      exact ⟨hlt, by simp [hw], fun j hj hji => by
        by_cases hje : j = i
        · subst hje; exact h3
        · exact hI j hj (by omega)⟩
    · have e3 : ¬ ((S[i].length : Int) = 128) := by omega
      (repeat (first
    | (apply is_ok; (case hw => simp [hlt, h3, e3]); (case he => simp [hlt, h3, e3]; exact is_rfl))
    | (apply op_no; (case hw => simp [hlt, h3, e3]))
    | refine op_nil ?_ | refine next_normal ?_ | refine go_seq ?_ | refine go_region ?_ | refine go_skip ?_ | refine go_block ?_ | refine inb_normal ?_
    | (apply go_yes; (case hc => simp [hlt, h3, e3])) | (apply go_no; (case hc => simp [hlt, h3, e3]))
    | refine go_exit ?_ | refine next_exit ?_ | refine inb_here ?_ | refine inb_past (by decide) ?_ | refine go_ret ?_ | refine next_ret ?_ | refine inb_ret ?_))
      (apply ends_ok; (case h1 => simp; exact is_rfl); (case h2 => simp; exact is_rfl))
      have : ¬ RightP S B := fun h => h3 (h.2.2.1 _ (List.getElem_mem hlt))
      simp [this]
  clear hw
  (repeat (first
    | (apply is_ok; (case hw => simp [hlt]); (case he => simp [hlt]; exact is_rfl))
    | (apply op_no; (case hw => simp [hlt]))
    | refine op_nil ?_ | refine next_normal ?_ | refine go_seq ?_ | refine go_region ?_ | refine go_skip ?_ | refine go_block ?_ | refine inb_normal ?_
    | (apply go_yes; (case hc => simp [hlt])) | (apply go_no; (case hc => simp [hlt]))
    | refine go_exit ?_ | refine next_exit ?_ | refine inb_here ?_ | refine inb_past (by decide) ?_ | refine go_ret ?_ | refine next_ret ?_ | refine inb_ret ?_))
  have hS : ∀ s ∈ S, s.length = 128 := fun s hs => by
    obtain ⟨j, hj, rfl⟩ := List.getElem_of_mem hs
    exact hI j hj (by omega)
  clear hlt hI hi
  refine go_count B.length (fun i => [(1, .ptr 0 1 0 0), (4, .int .i64 i)]) (fun _ => [.box (drv S B)]) (fun i => ∀ j (hj : j < B.length), j < i → 0 ≤ B[j] ∧ B[j] < S.length ∧ (1 ≤ j → B.getD (j - 1) 0 < B[j])) (by simp) (by simp) fun k hk hI => ?_
  by_cases hlt : k < B.length
  · have hw : IntKind.i64.wrap ((k : Int) + 1) = (k : Int) + 1 := wrap_id (by omega) (by omega)
    by_cases h3 : 0 ≤ B[k]
    case neg =>
      have e3 : B[k] < 0 := by omega
      (repeat (first
    | (apply is_ok; (case hw => simp [hlt, h3, e3]); (case he => simp [hlt, h3, e3]; exact is_rfl))
    | (apply op_no; (case hw => simp [hlt, h3, e3]))
    | refine op_nil ?_ | refine next_normal ?_ | refine go_seq ?_ | refine go_region ?_ | refine go_skip ?_ | refine go_block ?_ | refine inb_normal ?_
    | (apply go_yes; (case hc => simp [hlt, h3, e3])) | (apply go_no; (case hc => simp [hlt, h3, e3]))
    | refine go_exit ?_ | refine next_exit ?_ | refine inb_here ?_ | refine inb_past (by decide) ?_ | refine go_ret ?_ | refine next_ret ?_ | refine inb_ret ?_))
      (apply ends_ok; (case h1 => simp; exact is_rfl); (case h2 => simp; exact is_rfl))
      have : ¬ RightP S B := fun h => h3 (h.2.2.2.1 _ (List.getElem_mem hlt)).1
      simp [this]
    have e3 : ¬ (B[k] < 0) := by omega
    by_cases h4 : B[k] < S.length
    case neg =>
      have e4 : (S.length : Int) ≤ B[k] := by omega
      (repeat (first
    | (apply is_ok; (case hw => simp [hlt, h3, e3, h4, e4]); (case he => simp [hlt, h3, e3, h4, e4]; exact is_rfl))
    | (apply op_no; (case hw => simp [hlt, h3, e3, h4, e4]))
    | refine op_nil ?_ | refine next_normal ?_ | refine go_seq ?_ | refine go_region ?_ | refine go_skip ?_ | refine go_block ?_ | refine inb_normal ?_
    | (apply go_yes; (case hc => simp [hlt, h3, e3, h4, e4])) | (apply go_no; (case hc => simp [hlt, h3, e3, h4, e4]))
    | refine go_exit ?_ | refine next_exit ?_ | refine inb_here ?_ | refine inb_past (by decide) ?_ | refine go_ret ?_ | refine next_ret ?_ | refine inb_ret ?_))
      (apply ends_ok; (case h1 => simp; exact is_rfl); (case h2 => simp; exact is_rfl))
      have : ¬ RightP S B := fun h => h4 (h.2.2.2.1 _ (List.getElem_mem hlt)).2
      simp [this]
    have e4 : ¬ ((S.length : Int) ≤ B[k]) := by omega
    by_cases h5 : 0 < k
    · have hlt' : k - 1 < B.length := by omega
      have hw1 : IntKind.i64.wrap ((k : Int) - 1) = ((k - 1 : Nat) : Int) := by rw [wrap_id (by omega) (by omega)]; omega
      by_cases h6 : B[k - 1] < B[k]
      · have e6 : ¬ (B[k] ≤ B[k - 1]) := by omega
        (repeat (first
    | (apply is_ok; (case hw => simp [hlt, h3, e3, h4, e4, h5, hlt', hw1, h6, e6]); (case he => simp [hlt, h3, e3, h4, e4, h5, hlt', hw1, h6, e6]; exact is_rfl))
    | (apply op_no; (case hw => simp [hlt, h3, e3, h4, e4, h5, hlt', hw1, h6, e6]))
    | refine op_nil ?_ | refine next_normal ?_ | refine go_seq ?_ | refine go_region ?_ | refine go_skip ?_ | refine go_block ?_ | refine inb_normal ?_
    | (apply go_yes; (case hc => simp [hlt, h3, e3, h4, e4, h5, hlt', hw1, h6, e6])) | (apply go_no; (case hc => simp [hlt, h3, e3, h4, e4, h5, hlt', hw1, h6, e6]))
    | refine go_exit ?_ | refine next_exit ?_ | refine inb_here ?_ | refine inb_past (by decide) ?_ | refine go_ret ?_ | refine next_ret ?_ | refine inb_ret ?_))
        exact ⟨hlt, by simp [hw], fun j hj hji => by
          by_cases hje : j = k
          · subst hje; exact ⟨h3, h4, fun _ => by simpa [hlt'] using h6⟩
          · exact hI j hj (by omega)⟩
      · have e6 : (B[k] ≤ B[k - 1]) := by omega
        (repeat (first
    | (apply is_ok; (case hw => simp [hlt, h3, e3, h4, e4, h5, hlt', hw1, h6, e6]); (case he => simp [hlt, h3, e3, h4, e4, h5, hlt', hw1, h6, e6]; exact is_rfl))
    | (apply op_no; (case hw => simp [hlt, h3, e3, h4, e4, h5, hlt', hw1, h6, e6]))
    | refine op_nil ?_ | refine next_normal ?_ | refine go_seq ?_ | refine go_region ?_ | refine go_skip ?_ | refine go_block ?_ | refine inb_normal ?_
    | (apply go_yes; (case hc => simp [hlt, h3, e3, h4, e4, h5, hlt', hw1, h6, e6])) | (apply go_no; (case hc => simp [hlt, h3, e3, h4, e4, h5, hlt', hw1, h6, e6]))
    | refine go_exit ?_ | refine next_exit ?_ | refine inb_here ?_ | refine inb_past (by decide) ?_ | refine go_ret ?_ | refine next_ret ?_ | refine inb_ret ?_))
        (apply ends_ok; (case h1 => simp; exact is_rfl); (case h2 => simp; exact is_rfl))
        have : ¬ RightP S B := fun h => by
          have := h.2.2.2.2 k (List.mem_range.2 hlt) h5
          simp [hlt, hlt'] at this
          omega
        simp [this]
    · (repeat (first
    | (apply is_ok; (case hw => simp [hlt, h3, e3, h4, e4, h5]); (case he => simp [hlt, h3, e3, h4, e4, h5]; exact is_rfl))
    | (apply op_no; (case hw => simp [hlt, h3, e3, h4, e4, h5]))
    | refine op_nil ?_ | refine next_normal ?_ | refine go_seq ?_ | refine go_region ?_ | refine go_skip ?_ | refine go_block ?_ | refine inb_normal ?_
    | (apply go_yes; (case hc => simp [hlt, h3, e3, h4, e4, h5])) | (apply go_no; (case hc => simp [hlt, h3, e3, h4, e4, h5]))
    | refine go_exit ?_ | refine next_exit ?_ | refine inb_here ?_ | refine inb_past (by decide) ?_ | refine go_ret ?_ | refine next_ret ?_ | refine inb_ret ?_))
      exact ⟨hlt, by simp [hw], fun j hj hji => by
        by_cases hje : j = k
        · subst hje; exact ⟨h3, h4, fun _ => by omega⟩
        · exact hI j hj (by omega)⟩
  · (repeat (first
    | (apply is_ok; (case hw => simp [hlt]); (case he => simp [hlt]; exact is_rfl))
    | (apply op_no; (case hw => simp [hlt]))
    | refine op_nil ?_ | refine next_normal ?_ | refine go_seq ?_ | refine go_region ?_ | refine go_skip ?_ | refine go_block ?_ | refine inb_normal ?_
    | (apply go_yes; (case hc => simp [hlt])) | (apply go_no; (case hc => simp [hlt]))
    | refine go_exit ?_ | refine next_exit ?_ | refine inb_here ?_ | refine inb_past (by decide) ?_ | refine go_ret ?_ | refine next_ret ?_ | refine inb_ret ?_))
    (apply ends_ok; (case h1 => simp; exact is_rfl); (case h2 => simp; exact is_rfl))
    have : RightP S B := ⟨h1, h2, hS, fun b hb => by
      obtain ⟨j, hj, rfl⟩ := List.getElem_of_mem hb
      exact ⟨(hI j hj (by omega)).1, (hI j hj (by omega)).2.1⟩, fun j hj h => by
      have hj' := List.mem_range.1 hj
      have := (hI j hj' (by omega)).2.2 h
      simpa [hj'] using this⟩
    simp [this]
end Go.Abs

namespace Go.Abs
open Go.Proofs
set_option maxRecDepth 100000
set_option linter.unusedSimpArgs false
set_option linter.unusedVariables false

/-- Extents: a start and a number of units. -/
abbrev Ex := Int × Int
def meetP (a b : Ex) : Prop := 0 < a.2 ∧ 0 < b.2 ∧ a.1 < b.1 + b.2 ∧ b.1 < a.1 + a.2
instance (a b : Ex) : Decidable (meetP a b) := by unfold meetP; infer_instance
/-- Is there room for some units from n on? -/
def roomP (l : List Ex) (w : Ex) (k n : Int) : Prop := (∀ y ∈ l, ¬ meetP (n, k) y) ∧ w.1 ≤ n ∧ n + k ≤ w.1 + w.2
instance (l : List Ex) (w : Ex) (k n : Int) : Decidable (roomP l w k n) := by unfold roomP; infer_instance
/-- Where a first place may begin. -/
def candP (l : List Ex) (w : Ex) (m : Int) : Prop := m = w.1 ∨ ∃ y ∈ l, 0 < y.2 ∧ m = y.1 + y.2

/-- The greatest candidate up to n. -/
theorem cand_max (l : List Ex) (w : Ex) (n : Int) (h : w.1 ≤ n) : ∃ m, candP l w m ∧ m ≤ n ∧ ∀ c, candP l w c → c ≤ n → c ≤ m := by
  induction l with
  | nil => 
    refine ⟨w.1, .inl rfl, h, fun c hc _ => ?_⟩
    rcases hc with rfl | ⟨y, hy, _⟩
    · exact Int.le_refl _
    · cases hy
  | cons x l ih =>
    obtain ⟨m, hm, hmn, hmax⟩ := ih
    have up : candP (x :: l) w m := hm.imp id fun ⟨y, hy, h⟩ => ⟨y, List.mem_cons_of_mem _ hy, h⟩
    have down : ∀ c, candP (x :: l) w c → candP l w c ∨ (0 < x.2 ∧ c = x.1 + x.2) := fun c hc => by
      rcases hc with h | ⟨y, hy, h1, h2⟩
      · exact .inl (.inl h)
      · rcases List.mem_cons.1 hy with rfl | hy
        · exact .inr ⟨h1, h2⟩
        · exact .inl (.inr ⟨y, hy, h1, h2⟩)
    by_cases hx : 0 < x.2 ∧ x.1 + x.2 ≤ n ∧ m < x.1 + x.2
    · refine ⟨x.1 + x.2, .inr ⟨x, List.mem_cons_self .., hx.1, rfl⟩, hx.2.1, fun c hc hcn => ?_⟩
      rcases down c hc with h | ⟨_, rfl⟩
      · have := hmax c h hcn
        omega
      · exact Int.le_refl _
    · refine ⟨m, up, hmn, fun c hc hcn => ?_⟩
      rcases down c hc with h | ⟨h1, rfl⟩
      · exact hmax c h hcn
      · by_cases h2 : x.1 + x.2 ≤ m
        · exact h2
        · exact absurd ⟨h1, hcn, by omega⟩ hx
/-- Where there is room, there is room at a candidate before it. -/
theorem room_cand {l : List Ex} {w : Ex} {k n : Int} (hk : 0 < k) (h : roomP l w k n) : ∃ m, candP l w m ∧ m ≤ n ∧ roomP l w k m := by
  obtain ⟨h1, h2, h3⟩ := h
  obtain ⟨m, hm, hmn, hmax⟩ := cand_max l w n h2
  refine ⟨m, hm, hmn, fun y hy hme => ?_, hmax w.1 (.inl rfl) h2, by omega⟩
  unfold meetP at hme
  dsimp only at hme
  by_cases hyn : y.1 + y.2 ≤ n
  · have := hmax (y.1 + y.2) (.inr ⟨y, hy, hme.2.1, rfl⟩) hyn
    omega
  · exact h1 y hy ⟨hk, hme.2.1, by dsimp only; omega, by dsimp only; omega⟩

/-- The least of the places with room among some. -/
def leastR (l : List Ex) (w : Ex) (k : Int) (cs : List Int) : Option Int := ((sorted cs).find? fun n => decide (roomP l w k n))
theorem find_sorted_min {p : Int → Bool} : ∀ {cs : List Int} {n : Int}, cs.Pairwise (· ≤ ·) → cs.find? p = some n → n ∈ cs ∧ p n = true ∧ ∀ m ∈ cs, p m = true → n ≤ m
  | [], n, _, h => by cases h
  | c :: cs, n, hs, h => by
    rw [List.pairwise_cons] at hs
    rw [List.find?_cons] at h
    cases hp : p c with
    | true =>
      rw [hp] at h
      cases h
      exact ⟨List.mem_cons_self .., hp, fun m hm _ => by
        rcases List.mem_cons.1 hm with rfl | hm
        · exact Int.le_refl _
        · exact hs.1 m hm⟩
    | false =>
      rw [hp] at h
      obtain ⟨h1, h2, h3⟩ := find_sorted_min hs.2 h
      exact ⟨List.mem_cons_of_mem _ h1, h2, fun m hm hpm => by
        rcases List.mem_cons.1 hm with rfl | hm
        · rw [hp] at hpm; cases hpm
        · exact h3 m hm hpm⟩
end Go.Abs

namespace Go.Abs
open Go.Proofs
set_option maxRecDepth 100000
set_option linter.unusedSimpArgs false
set_option linter.unusedVariables false

theorem refsL_none {l : List V} (h : ∀ x ∈ l, refs x = []) : refsL l = [] := by
  induction l with
  | nil => rfl
  | cons x l ih => rw [refsL_cons, h x (List.mem_cons_self ..), ih fun y hy => h y (List.mem_cons_of_mem _ hy)]; rfl
theorem renL_same {ρ : Nat → Option Nat} {l : List V} (h : ∀ x ∈ l, ren ρ x = x) : renL ρ l = l := by
  induction l with
  | nil => rfl
  | cons x l ih => rw [renL_cons, h x (List.mem_cons_self ..), ih fun y hy => h y (List.mem_cons_of_mem _ hy)]
@[simp] theorem refsL_ints (k : IntKind) (L : List Int) : refsL (L.map (V.int k)) = [] := refsL_none fun x hx => by obtain ⟨a, _, rfl⟩ := List.mem_map.1 hx; rfl
@[simp] theorem refsL_strs (L : List (List UInt8)) : refsL (L.map V.str) = [] := refsL_none fun x hx => by obtain ⟨a, _, rfl⟩ := List.mem_map.1 hx; rfl
@[simp] theorem refsL_ints_take (n : Nat) (k : IntKind) (L : List Int) : refsL ((L.map (V.int k)).take n) = [] := refsL_none fun x hx => by obtain ⟨a, _, rfl⟩ := List.mem_map.1 (List.mem_of_mem_take hx); rfl
@[simp] theorem renL_ints (ρ : Nat → Option Nat) (k : IntKind) (L : List Int) : renL ρ (L.map (V.int k)) = L.map (V.int k) := renL_same fun x hx => by obtain ⟨a, _, rfl⟩ := List.mem_map.1 hx; rfl
@[simp] theorem renL_strs (ρ : Nat → Option Nat) (L : List (List UInt8)) : renL ρ (L.map V.str) = L.map V.str := renL_same fun x hx => by obtain ⟨a, _, rfl⟩ := List.mem_map.1 hx; rfl

/-- A whole number as two bytes. -/
def put2 (n : Int) : List UInt8 := [UInt8.ofNat (n.toNat % 256), UInt8.ofNat (n.toNat / 256 % 256)]
theorem wrap_u8_nat (x : Nat) : IntKind.u8.wrap (x : Int) = ((x % 256 : Nat) : Int) := by simp [IntKind.wrap, IntKind.bits, IntKind.signed]
theorem fdiv_nat (a b : Nat) : (a : Int).fdiv (b : Int) = ((a / b : Nat) : Int) := by rw [Int.fdiv_eq_ediv_of_nonneg _ (by omega)]; rfl

@[simp] theorem ofVal_int (k : IntKind) (n : Int) : ofVal (.int k n) = .int k n := rfl
@[simp] theorem ofVal_bool (b : Bool) : ofVal (.bool b) = .bool b := rfl
@[simp] theorem ofVal_str (s : ByteArray) : ofVal (.string s) = .str s.data.toList := rfl

@[simp] theorem wrap_lit {x : Int} (h : -9223372036854775808 ≤ x) (h' : x ≤ 9223372036854775807) : IntKind.i64.wrap x = x := wrap_id h h'
@[simp] theorem bits_i64 : IntKind.i64.bits = 64 := rfl
@[simp] theorem bits_u8 : IntKind.u8.bits = 8 := rfl
@[simp] theorem bits_u64 : IntKind.u64.bits = 64 := rfl

end Go.Abs

namespace Go.Abs
open Go.Proofs
set_option maxRecDepth 100000
set_option linter.unusedSimpArgs false
set_option linter.unusedVariables false

def exV (p : Ex) : V := .agg [.int .i64 p.1, .int .i64 p.2]
def UsuP (p : Ex) : Prop := 0 ≤ p.1 ∧ p.1 ≤ 1048576 ∧ 0 ≤ p.2 ∧ p.2 ≤ 1048576
instance (p : Ex) : Decidable (UsuP p) := by unfold UsuP; infer_instance
@[simp] theorem hasRoL_ex (l : List Ex) : hasRoL (l.map exV) = false := by
  rw [hasRoL_any, List.any_eq_false]
  intro x hx
  obtain ⟨w, _, rfl⟩ := List.mem_map.1 hx
  simp [exV]

theorem Usual_eq (p : Ex) : bodyW DC 14 [.agg [.int .i64 p.1, .int .i64 p.2]] [] = some (.bool (decide (UsuP p)), []) := by
  unfold UsuP
  by_cases h1 : 0 ≤ p.1 <;> by_cases h2 : p.1 ≤ 1048576 <;> by_cases h3 : 0 ≤ p.2 <;>
  · (refine gives_iff ?_; refine go_func Tryz.f14 rfl rfl (by simp [Tryz.f14]) ?_; dsimp only [codeL, Tryz.f14, scL, sopsL, guardL, dstAt, loopKey])
    (repeat (first
    | (apply is_ok; (case hw => simp [h1, h2, h3]); (case he => simp [h1, h2, h3]; exact is_rfl))
    | (apply op_no; (case hw => simp [h1, h2, h3]))
    | refine op_nil ?_ | refine next_normal ?_ | refine go_seq ?_ | refine go_region ?_ | refine go_skip ?_ | refine go_block ?_ | refine inb_normal ?_
    | (apply go_yes; (case hc => simp [h1, h2, h3])) | (apply go_no; (case hc => simp [h1, h2, h3]))
    | refine go_exit ?_ | refine next_exit ?_ | refine inb_here ?_ | refine inb_past (by decide) ?_ | refine go_ret ?_ | refine next_ret ?_ | refine inb_ret ?_))
    (apply ends_ok; (case h1 => simp; exact is_rfl); (case h2 => simp; exact is_rfl))
    simp [h1, h2, h3]

theorem Meet_eq (a b : Ex) (ha : 0 ≤ a.1 ∧ a.1 ≤ 4000000 ∧ 0 ≤ a.2 ∧ a.2 ≤ 4000000) (hb : 0 ≤ b.1 ∧ b.1 ≤ 4000000 ∧ 0 ≤ b.2 ∧ b.2 ≤ 4000000) : bodyW DC 47 [.agg [.int .i64 a.1, .int .i64 a.2], .agg [.int .i64 b.1, .int .i64 b.2]] [] = some (.bool (decide (meetP a b)), []) := by
  have w1 : IntKind.i64.wrap (b.1 + b.2) = b.1 + b.2 := wrap_id (by omega) (by omega)
  have w2 : IntKind.i64.wrap (a.1 + a.2) = a.1 + a.2 := wrap_id (by omega) (by omega)
  unfold meetP
  by_cases h1 : 0 < a.2 <;> by_cases h2 : 0 < b.2 <;> by_cases h3 : a.1 < b.1 + b.2 <;>
  · (refine gives_iff ?_; refine go_func Tryz.f47 rfl rfl (by simp [Tryz.f47]) ?_; dsimp only [codeL, Tryz.f47, scL, sopsL, guardL, dstAt, loopKey])
    (repeat (first
    | (apply is_ok; (case hw => simp [h1, h2, h3, w1, w2]); (case he => simp [h1, h2, h3, w1, w2]; exact is_rfl))
    | (apply op_no; (case hw => simp [h1, h2, h3, w1, w2]))
    | refine op_nil ?_ | refine next_normal ?_ | refine go_seq ?_ | refine go_region ?_ | refine go_skip ?_ | refine go_block ?_ | refine inb_normal ?_
    | (apply go_yes; (case hc => simp [h1, h2, h3, w1, w2])) | (apply go_no; (case hc => simp [h1, h2, h3, w1, w2]))
    | refine go_exit ?_ | refine next_exit ?_ | refine inb_here ?_ | refine inb_past (by decide) ?_ | refine go_ret ?_ | refine next_ret ?_ | refine inb_ret ?_))
    (apply ends_ok; (case h1 => simp; exact is_rfl); (case h2 => simp; exact is_rfl))
    simp [h1, h2, h3]

theorem Within_eq (a b : Ex) (ha : 0 ≤ a.1 ∧ a.1 ≤ 4000000 ∧ 0 < a.2 ∧ a.2 ≤ 4000000) (hb : 0 ≤ b.1 ∧ b.1 ≤ 4000000 ∧ 0 ≤ b.2 ∧ b.2 ≤ 4000000) : bodyW DC 46 [.agg [.int .i64 a.1, .int .i64 a.2], .agg [.int .i64 b.1, .int .i64 b.2]] [] = some (.bool (decide (b.1 ≤ a.1 ∧ a.1 + a.2 ≤ b.1 + b.2)), []) := by
  have w1 : IntKind.i64.wrap (b.1 + b.2) = b.1 + b.2 := wrap_id (by omega) (by omega)
  have w2 : IntKind.i64.wrap (a.1 + a.2) = a.1 + a.2 := wrap_id (by omega) (by omega)
  have h0 : ¬ a.2 < 1 := by omega
  by_cases h1 : b.1 ≤ a.1 <;>
  · (refine gives_iff ?_; refine go_func Tryz.f46 rfl rfl (by simp [Tryz.f46]) ?_; dsimp only [codeL, Tryz.f46, scL, sopsL, guardL, dstAt, loopKey])
    (repeat (first
    | (apply is_ok; (case hw => simp [h0, h1, w1, w2]); (case he => simp [h0, h1, w1, w2]; exact is_rfl))
    | (apply op_no; (case hw => simp [h0, h1, w1, w2]))
    | refine op_nil ?_ | refine next_normal ?_ | refine go_seq ?_ | refine go_region ?_ | refine go_skip ?_ | refine go_block ?_ | refine inb_normal ?_
    | (apply go_yes; (case hc => simp [h0, h1, w1, w2])) | (apply go_no; (case hc => simp [h0, h1, w1, w2]))
    | refine go_exit ?_ | refine next_exit ?_ | refine inb_here ?_ | refine inb_past (by decide) ?_ | refine go_ret ?_ | refine next_ret ?_ | refine inb_ret ?_))
    (apply ends_ok; (case h1 => simp; exact is_rfl); (case h2 => simp; exact is_rfl))
    simp [h1]

theorem end_eq (a : Ex) (ha : 0 ≤ a.1 ∧ a.1 ≤ 4000000 ∧ 0 ≤ a.2 ∧ a.2 ≤ 4000000) : bodyW DC 49 [.agg [.int .i64 a.1, .int .i64 a.2]] [] = some (.int .i64 (a.1 + a.2), []) := by
  have w2 : IntKind.i64.wrap (a.1 + a.2) = a.1 + a.2 := wrap_id (by omega) (by omega)
  (refine gives_iff ?_; refine go_func Tryz.f49 rfl rfl (by simp [Tryz.f49]) ?_; dsimp only [codeL, Tryz.f49, scL, sopsL, guardL, dstAt, loopKey])
  (repeat (first
    | (apply is_ok; (case hw => simp [w2]); (case he => simp [w2]; exact is_rfl))
    | (apply op_no; (case hw => simp [w2]))
    | refine op_nil ?_ | refine next_normal ?_ | refine go_seq ?_ | refine go_region ?_ | refine go_skip ?_ | refine go_block ?_ | refine inb_normal ?_
    | (apply go_yes; (case hc => simp [w2])) | (apply go_no; (case hc => simp [w2]))
    | refine go_exit ?_ | refine next_exit ?_ | refine inb_here ?_ | refine inb_past (by decide) ?_ | refine go_ret ?_ | refine next_ret ?_ | refine inb_ret ?_))
  (apply ends_ok; (case h1 => simp; exact is_rfl); (case h2 => simp; exact is_rfl))
  simp

theorem meet_eq (a b : Ex) (ha : 0 ≤ a.1 ∧ a.1 ≤ 4000000 ∧ 0 ≤ a.2 ∧ a.2 ≤ 4000000) (hb : 0 ≤ b.1 ∧ b.1 ≤ 4000000 ∧ 0 ≤ b.2 ∧ b.2 ≤ 4000000) : bodyW DC 54 [.agg [.int .i64 a.1, .int .i64 a.2], .agg [.int .i64 b.1, .int .i64 b.2]] [] = some (.bool (decide (meetP a b)), []) := by
  have v1 := end_eq a ha
  have v2 := end_eq b hb
  unfold meetP
  by_cases h1 : 0 < a.2 <;> by_cases h2 : 0 < b.2 <;> by_cases h3 : a.1 < b.1 + b.2 <;>
  · (refine gives_iff ?_; refine go_func Tryz.f54 rfl rfl (by simp [Tryz.f54]) ?_; dsimp only [codeL, Tryz.f54, scL, sopsL, guardL, dstAt, loopKey])
    (repeat (first
    | (apply is_ok; (case hw => simp [h1, h2, h3, v1, v2]); (case he => simp [h1, h2, h3, v1, v2]; exact is_rfl))
    | (apply op_no; (case hw => simp [h1, h2, h3, v1, v2]))
    | refine op_nil ?_ | refine next_normal ?_ | refine go_seq ?_ | refine go_region ?_ | refine go_skip ?_ | refine go_block ?_ | refine inb_normal ?_
    | (apply go_yes; (case hc => simp [h1, h2, h3, v1, v2])) | (apply go_no; (case hc => simp [h1, h2, h3, v1, v2]))
    | refine go_exit ?_ | refine next_exit ?_ | refine inb_here ?_ | refine inb_past (by decide) ?_ | refine go_ret ?_ | refine next_ret ?_ | refine inb_ret ?_))
    (apply ends_ok; (case h1 => simp; exact is_rfl); (case h2 => simp; exact is_rfl))
    simp [h1, h2, h3]

theorem within_eq (a b : Ex) (ha : 0 ≤ a.1 ∧ a.1 ≤ 4000000 ∧ 0 < a.2 ∧ a.2 ≤ 4000000) (hb : 0 ≤ b.1 ∧ b.1 ≤ 4000000 ∧ 0 ≤ b.2 ∧ b.2 ≤ 4000000) : bodyW DC 51 [.agg [.int .i64 a.1, .int .i64 a.2], .agg [.int .i64 b.1, .int .i64 b.2]] [] = some (.bool (decide (b.1 ≤ a.1 ∧ a.1 + a.2 ≤ b.1 + b.2)), []) := by
  have v1 := end_eq a (by omega)
  have v2 := end_eq b hb
  have h0 : ¬ a.2 < 1 := by omega
  by_cases h1 : b.1 ≤ a.1 <;>
  · (refine gives_iff ?_; refine go_func Tryz.f51 rfl rfl (by simp [Tryz.f51]) ?_; dsimp only [codeL, Tryz.f51, scL, sopsL, guardL, dstAt, loopKey])
    (repeat (first
    | (apply is_ok; (case hw => simp [h0, h1, v1, v2]); (case he => simp [h0, h1, v1, v2]; exact is_rfl))
    | (apply op_no; (case hw => simp [h0, h1, v1, v2]))
    | refine op_nil ?_ | refine next_normal ?_ | refine go_seq ?_ | refine go_region ?_ | refine go_skip ?_ | refine go_block ?_ | refine inb_normal ?_
    | (apply go_yes; (case hc => simp [h0, h1, v1, v2])) | (apply go_no; (case hc => simp [h0, h1, v1, v2]))
    | refine go_exit ?_ | refine next_exit ?_ | refine inb_here ?_ | refine inb_past (by decide) ?_ | refine go_ret ?_ | refine next_ret ?_ | refine inb_ret ?_))
    (apply ends_ok; (case h1 => simp; exact is_rfl); (case h2 => simp; exact is_rfl))
    simp [h1]
end Go.Abs

namespace Go.Abs
open Go.Proofs
set_option maxRecDepth 100000
set_option linter.unusedSimpArgs false
set_option linter.unusedVariables false

/-- A process. -/
structure Pr where
  a : Cs 2
  st : Int
  b : Cs 10
  base : Int
  blk : Int
  swd : Bool
  c : Cs 13
def Pr.cells (p : Pr) : List V := p.a.l ++ .int .i64 p.st :: (p.b.l ++ .int .i64 p.base :: .int .i64 p.blk :: .bool p.swd :: p.c.l)
theorem Pr.plain (p : Pr) : ∀ x ∈ p.cells, PlainV x := by
  intro x hx
  unfold Pr.cells at hx
  simp only [List.mem_append, List.mem_cons] at hx
  rcases hx with h | rfl | h | rfl | rfl | rfl | h
  · exact p.a.pl x h
  · exact plain_int _ _
  · exact p.b.pl x h
  · exact plain_int _ _
  · exact plain_int _ _
  · exact plain_bool _
  · exact p.c.pl x h
@[simp] theorem Pr.cells_len (p : Pr) : p.cells.length = 29 := by simp [Pr.cells, p.a.len, p.b.len, p.c.len]
@[simp] theorem Pr.cells_ne (p : Pr) : (p.cells = []) = False := by
  rw [eq_iff_iff, iff_false]; intro h; have := p.cells_len; rw [h] at this; cases this
@[simp] theorem Pr.cells_seal (p : Pr) (H : Heap) : sealL H p.cells = some (p.cells, []) := plain_sealL _ p.plain
@[simp] theorem Pr.cells_refs (p : Pr) : refsL p.cells = [] := plain_refsL _ p.plain
@[simp] theorem Pr.cells_ren (p : Pr) (ρ : Nat → Option Nat) : renL ρ p.cells = p.cells := plain_renL _ p.plain

theorem Pr.cells_st (p : Pr) : p.cells = p.a.l ++ V.int .i64 p.st :: (p.b.l ++ V.int .i64 p.base :: V.int .i64 p.blk :: V.bool p.swd :: p.c.l) := rfl
theorem Pr.cells_base (p : Pr) : p.cells = (p.a.l ++ V.int .i64 p.st :: p.b.l) ++ V.int .i64 p.base :: (V.int .i64 p.blk :: V.bool p.swd :: p.c.l) := by simp [Pr.cells]
theorem Pr.cells_blk (p : Pr) : p.cells = (p.a.l ++ V.int .i64 p.st :: (p.b.l ++ [V.int .i64 p.base])) ++ V.int .i64 p.blk :: (V.bool p.swd :: p.c.l) := by simp [Pr.cells]
theorem Pr.cells_swd (p : Pr) : p.cells = (p.a.l ++ V.int .i64 p.st :: (p.b.l ++ [V.int .i64 p.base, V.int .i64 p.blk])) ++ V.bool p.swd :: p.c.l := by simp [Pr.cells]
theorem Pr.pre_base (p : Pr) : (p.a.l ++ V.int .i64 p.st :: p.b.l).length = 13 := by simp [p.a.len, p.b.len]
theorem Pr.pre_blk (p : Pr) : (p.a.l ++ V.int .i64 p.st :: (p.b.l ++ [V.int .i64 p.base])).length = 14 := by simp [p.a.len, p.b.len]
theorem Pr.pre_swd (p : Pr) : (p.a.l ++ V.int .i64 p.st :: (p.b.l ++ [V.int .i64 p.base, V.int .i64 p.blk])).length = 15 := by simp [p.a.len, p.b.len]

@[simp high] theorem Pr.sub_st (p : Pr) : sub Tryz.prog 3 (.agg p.cells) 2 = some (.int .i64 p.st) := by
  rw [p.cells_st]; exact sub_one (inf3) (agg3) p.a.len (tsz3) rfl
@[simp high] theorem Pr.sub_base (p : Pr) : sub Tryz.prog 3 (.agg p.cells) 13 = some (.int .i64 p.base) := by
  rw [p.cells_base]; exact sub_one (inf3) (agg3) p.pre_base (tsz3) rfl
@[simp high] theorem Pr.sub_blk (p : Pr) : sub Tryz.prog 3 (.agg p.cells) 14 = some (.int .i64 p.blk) := by
  rw [p.cells_blk]; exact sub_one (inf3) (agg3) p.pre_blk (tsz3) rfl
@[simp high] theorem Pr.sub_swd (p : Pr) : sub Tryz.prog 4 (.agg p.cells) 15 = some (.bool p.swd) := by
  rw [p.cells_swd]; exact sub_one (inf4) (agg4) p.pre_swd (tsz4) rfl
theorem sub_all {P : Program} {t : TypeId} {z : TypeInfo} {xs : List V} (hz : P.info? t = some z) (ha : aggT P t = some true) (hm : xs.length = z.size) : sub P t (.agg xs) 0 = some (.agg xs) := by
  have := sub_agg (pre := []) (mid := xs) (post := []) (off := 0) hz ha rfl hm
  simpa using this
@[simp high] theorem Pr.sub_all (p : Pr) : sub Tryz.prog 47 (.agg p.cells) 0 = some (.agg p.cells) := Go.Abs.sub_all inf47 agg47 (p.cells_len.trans tsz47.symm)

/-- The cells of some processes. -/
def prsC (ps : List Pr) : List V := ps.flatMap Pr.cells
theorem prsC_len (ps : List Pr) : (prsC ps).length = 29 * ps.length := by
  induction ps with
  | nil => rfl
  | cons p ps ih => simp [prsC] at ih ⊢; omega
theorem prsC_plain (ps : List Pr) : ∀ x ∈ prsC ps, PlainV x := by
  intro x hx
  obtain ⟨p, _, h⟩ := List.mem_flatMap.1 hx
  exact p.plain x h
theorem prsC_at {ps : List Pr} {i : Nat} {p : Pr} (h : ps[i]? = some p) : prsC ps = prsC (ps.take i) ++ (p.cells ++ prsC (ps.drop (i + 1))) ∧ (prsC (ps.take i)).length = i * 29 := by
  obtain ⟨hi, rfl⟩ := List.getElem?_eq_some_iff.1 h
  refine ⟨?_, by rw [prsC_len, List.length_take]; omega⟩
  have e : ps = ps.take i ++ (ps[i] :: ps.drop (i + 1)) := by rw [← List.drop_eq_getElem_cons hi, List.take_append_drop]
  have e2 : prsC (ps.take i ++ (ps[i] :: ps.drop (i + 1))) = prsC (ps.take i) ++ (ps[i].cells ++ prsC (ps.drop (i + 1))) := by simp only [prsC, List.flatMap_append, List.flatMap_cons]
  rw [← e] at e2
  exact e2
theorem prsC_set {ps : List Pr} {i : Nat} {p : Pr} (h : i < ps.length) : prsC (ps.set i p) = prsC (ps.take i) ++ (p.cells ++ prsC (ps.drop (i + 1))) := by
  simp [prsC, List.set_eq_take_append_cons_drop, h]
@[simp] theorem prsC_seal (ps : List Pr) (H : Heap) : sealL H (prsC ps) = some (prsC ps, []) := plain_sealL _ (prsC_plain ps)
@[simp] theorem prsC_refs (ps : List Pr) : refsL (prsC ps) = [] := plain_refsL _ (prsC_plain ps)
@[simp] theorem prsC_ren (ps : List Pr) (ρ : Nat → Option Nat) : renL ρ (prsC ps) = prsC ps := plain_renL _ (prsC_plain ps)

/-- A system. -/
structure Sys where
  c0 : Cs 10
  mem : List Int
  bad : List Int
  c1 : Cs 72
  S : List (List UInt8)
  B : List Int
  c2 : Cs 24
  ps : List Pr
  hps : ps.length = 8
  c3 : Cs 169
  sw : Ex
  co : Ex
  c4 : Cs 3
def Sys.tail1 (s : Sys) : List V := .int .i64 s.sw.1 :: .int .i64 s.sw.2 :: .int .i64 s.co.1 :: .int .i64 s.co.2 :: s.c4.l
def Sys.cells (s : Sys) : List V := s.c0.l ++ .sl (ints s.mem) :: .sl (ints s.bad) :: (s.c1.l ++ .sl (strs s.S) :: .sl (ints s.B) :: (s.c2.l ++ (prsC s.ps ++ (s.c3.l ++ s.tail1))))
theorem Sys.plain (s : Sys) : ∀ x ∈ s.cells, PlainV x := by
  intro x hx
  unfold Sys.cells Sys.tail1 at hx
  simp only [List.mem_append, List.mem_cons] at hx
  rcases hx with h | rfl | rfl | h | rfl | rfl | h | h | h | rfl | rfl | rfl | rfl | h
  · exact s.c0.pl x h
  · exact plain_sl _
  · exact plain_sl _
  · exact s.c1.pl x h
  · exact plain_sl _
  · exact plain_sl _
  · exact s.c2.pl x h
  · exact prsC_plain _ x h
  · exact s.c3.pl x h
  · exact plain_int _ _
  · exact plain_int _ _
  · exact plain_int _ _
  · exact plain_int _ _
  · exact s.c4.pl x h
@[simp] theorem Sys.prs_len (s : Sys) : (prsC s.ps).length = 232 := by rw [prsC_len, s.hps]
@[simp] theorem Sys.cells_len (s : Sys) : s.cells.length = 518 := by simp [Sys.cells, Sys.tail1, s.c0.len, s.c1.len, s.c2.len, s.c3.len, s.c4.len]
@[simp] theorem Sys.cells_ne (s : Sys) : (s.cells = []) = False := by
  rw [eq_iff_iff, iff_false]; intro h; have := s.cells_len; rw [h] at this; cases this
@[simp] theorem Sys.prs_ne (s : Sys) : (prsC s.ps = []) = False := by
  rw [eq_iff_iff, iff_false]; intro h; have := s.prs_len; rw [h] at this; cases this
@[simp] theorem Sys.cells_seal (s : Sys) (H : Heap) : sealL H s.cells = some (s.cells, []) := plain_sealL _ s.plain
@[simp] theorem Sys.cells_refs (s : Sys) : refsL s.cells = [] := plain_refsL _ s.plain
@[simp] theorem Sys.cells_ren (s : Sys) (ρ : Nat → Option Nat) : renL ρ s.cells = s.cells := plain_renL _ s.plain

def Sys.p11 (s : Sys) : List V := s.c0.l ++ [.sl (ints s.mem)]
def Sys.p84 (s : Sys) : List V := s.c0.l ++ .sl (ints s.mem) :: .sl (ints s.bad) :: s.c1.l
def Sys.p110 (s : Sys) : List V := s.c0.l ++ .sl (ints s.mem) :: .sl (ints s.bad) :: (s.c1.l ++ .sl (strs s.S) :: .sl (ints s.B) :: s.c2.l)
def Sys.p511 (s : Sys) : List V := s.c0.l ++ .sl (ints s.mem) :: .sl (ints s.bad) :: (s.c1.l ++ .sl (strs s.S) :: .sl (ints s.B) :: (s.c2.l ++ (prsC s.ps ++ s.c3.l)))
theorem Sys.p11_len (s : Sys) : s.p11.length = 11 := by simp [Sys.p11, s.c0.len]
theorem Sys.p84_len (s : Sys) : s.p84.length = 84 := by simp [Sys.p84, s.c0.len, s.c1.len]
theorem Sys.p110_len (s : Sys) : s.p110.length = 110 := by simp [Sys.p110, s.c0.len, s.c1.len, s.c2.len]
theorem Sys.p511_len (s : Sys) : s.p511.length = 511 := by simp [Sys.p511, s.c0.len, s.c1.len, s.c2.len, s.c3.len]
theorem Sys.at10 (s : Sys) : s.cells = s.c0.l ++ .sl (ints s.mem) :: (.sl (ints s.bad) :: (s.c1.l ++ .sl (strs s.S) :: .sl (ints s.B) :: (s.c2.l ++ (prsC s.ps ++ (s.c3.l ++ s.tail1))))) := rfl
theorem Sys.at11 (s : Sys) : s.cells = s.p11 ++ .sl (ints s.bad) :: (s.c1.l ++ .sl (strs s.S) :: .sl (ints s.B) :: (s.c2.l ++ (prsC s.ps ++ (s.c3.l ++ s.tail1)))) := by simp [Sys.cells, Sys.p11]
theorem Sys.at84 (s : Sys) : s.cells = s.p84 ++ ([.sl (strs s.S), .sl (ints s.B)] ++ (s.c2.l ++ (prsC s.ps ++ (s.c3.l ++ s.tail1)))) := by simp [Sys.cells, Sys.p84]
theorem Sys.at110 (s : Sys) : s.cells = s.p110 ++ (prsC s.ps ++ (s.c3.l ++ s.tail1)) := by simp [Sys.cells, Sys.p110]
theorem Sys.at511 (s : Sys) : s.cells = s.p511 ++ ([.int .i64 s.sw.1, .int .i64 s.sw.2] ++ (.int .i64 s.co.1 :: .int .i64 s.co.2 :: s.c4.l)) := by simp [Sys.cells, Sys.p511, Sys.tail1]
theorem Sys.at513 (s : Sys) : s.cells = (s.p511 ++ [.int .i64 s.sw.1, .int .i64 s.sw.2]) ++ ([.int .i64 s.co.1, .int .i64 s.co.2] ++ s.c4.l) := by simp [Sys.cells, Sys.p511, Sys.tail1]

@[simp high] theorem Sys.sub_mem (s : Sys) : sub Tryz.prog 26 (.agg s.cells) 10 = some (.sl (ints s.mem)) := by
  rw [s.at10]; exact sub_one inf26 agg26 s.c0.len tsz26 rfl
@[simp high] theorem Sys.sub_bad (s : Sys) : sub Tryz.prog 26 (.agg s.cells) 11 = some (.sl (ints s.bad)) := by
  rw [s.at11]; exact sub_one inf26 agg26 s.p11_len tsz26 rfl
@[simp high] theorem Sys.sub_drive (s : Sys) : sub Tryz.prog 38 (.agg s.cells) 84 = some (drv s.S s.B) := by
  rw [s.at84]; exact sub_agg inf38 agg38 s.p84_len tsz38.symm
@[simp high] theorem Sys.sub_S (s : Sys) : sub Tryz.prog 36 (.agg s.cells) 84 = some (.sl (strs s.S)) := by
  rw [s.at84]; exact sub_one (pre := s.p84) (post := .sl (ints s.B) :: _) inf36 agg36 s.p84_len tsz36 rfl
@[simp high] theorem Sys.sub_ps (s : Sys) : sub Tryz.prog 48 (.agg s.cells) 110 = some (.agg (prsC s.ps)) := by
  rw [s.at110]; exact sub_agg inf48 agg48 s.p110_len (s.prs_len.trans tsz48.symm)
@[simp high] theorem Sys.sub_sw (s : Sys) : sub Tryz.prog 57 (.agg s.cells) 511 = some (exV s.sw) := by
  rw [s.at511]; exact sub_agg inf57 agg57 s.p511_len tsz57.symm
@[simp high] theorem Sys.sub_co (s : Sys) : sub Tryz.prog 57 (.agg s.cells) 513 = some (exV s.co) := by
  rw [s.at513]; exact sub_agg inf57 agg57 (by simp [s.p511_len]) tsz57.symm
@[simp high] theorem Sys.sub_sw1 (s : Sys) : sub Tryz.prog 3 (.agg s.cells) 511 = some (.int .i64 s.sw.1) := by
  rw [s.at511]; exact sub_one (pre := s.p511) (post := .int .i64 s.sw.2 :: _) inf3 agg3 s.p511_len tsz3 rfl
@[simp high] theorem Sys.sub_sw2 (s : Sys) : sub Tryz.prog 3 (.agg s.cells) 512 = some (.int .i64 s.sw.2) := by
  rw [s.at511, show ∀ (a b : V) (r : List V), s.p511 ++ ([a, b] ++ r) = (s.p511 ++ [a]) ++ b :: r by simp]
  exact sub_one inf3 agg3 (by simp [s.p511_len]) tsz3 rfl
@[simp high] theorem Sys.sub_co1 (s : Sys) : sub Tryz.prog 3 (.agg s.cells) 513 = some (.int .i64 s.co.1) := by
  rw [s.at513]; exact sub_one (pre := s.p511 ++ _) (post := .int .i64 s.co.2 :: _) inf3 agg3 (by simp [s.p511_len]) tsz3 rfl
@[simp high] theorem Sys.sub_co2 (s : Sys) : sub Tryz.prog 3 (.agg s.cells) 514 = some (.int .i64 s.co.2) := by
  rw [s.at513, show ∀ (l : List V) (a b : V) (r : List V), l ++ ([a, b] ++ r) = (l ++ [a]) ++ b :: r by simp]
  exact sub_one inf3 agg3 (by simp [s.p511_len]) tsz3 rfl
@[simp high] theorem Sys.sub_all (s : Sys) : sub Tryz.prog 59 (.agg s.cells) 0 = some (.agg s.cells) := Go.Abs.sub_all inf59 agg59 (s.cells_len.trans tsz59.symm)

section
variable {s : Sys} {i : Nat} {p : Pr}
theorem prs_off {off : Nat} (h : s.ps[i]? = some p) {pre post : List V} {x : V} (hc : p.cells = pre ++ x :: post) (hp : pre.length = off) {t : TypeId} {z : TypeInfo} (hz : Tryz.prog.info? t = some z) (ha : aggT Tryz.prog t = some false) (hm : z.size = 1) (hx : x.isAgg = false) :
    sub Tryz.prog t (.agg s.cells) (110 + i * 29 + off) = some x ∧ sub Tryz.prog t (.agg (prsC s.ps)) (i * 29 + off) = some x := by
  obtain ⟨h1, h2⟩ := prsC_at h
  have e1 : s.cells = (s.p110 ++ (prsC (s.ps.take i) ++ pre)) ++ x :: (post ++ (prsC (s.ps.drop (i + 1)) ++ (s.c3.l ++ s.tail1))) := by rw [s.at110, h1, hc]; simp
  have e2 : prsC s.ps = (prsC (s.ps.take i) ++ pre) ++ x :: (post ++ prsC (s.ps.drop (i + 1))) := by rw [h1, hc]; simp
  constructor
  · rw [e1]; exact sub_one hz ha (by simp [s.p110_len, h2, hp]; omega) hm hx
  · rw [e2]; exact sub_one hz ha (by simp [h2, hp]) hm hx
@[simp high] theorem Sys.pr_base (h : s.ps[i]? = some p) : sub Tryz.prog 3 (.agg s.cells) (110 + i * 29 + 13) = some (.int .i64 p.base) := (prs_off h p.cells_base p.pre_base inf3 agg3 tsz3 rfl).1
@[simp high] theorem Sys.pr_blk (h : s.ps[i]? = some p) : sub Tryz.prog 3 (.agg s.cells) (110 + i * 29 + 14) = some (.int .i64 p.blk) := (prs_off h p.cells_blk p.pre_blk inf3 agg3 tsz3 rfl).1
@[simp high] theorem Sys.pr_swd (h : s.ps[i]? = some p) : sub Tryz.prog 4 (.agg s.cells) (110 + i * 29 + 15) = some (.bool p.swd) := (prs_off h p.cells_swd p.pre_swd inf4 agg4 tsz4 rfl).1
@[simp high] theorem prs_base (h : s.ps[i]? = some p) : sub Tryz.prog 3 (.agg (prsC s.ps)) (i * 29 + 13) = some (.int .i64 p.base) := (prs_off h p.cells_base p.pre_base inf3 agg3 tsz3 rfl).2
@[simp high] theorem prs_blk (h : s.ps[i]? = some p) : sub Tryz.prog 3 (.agg (prsC s.ps)) (i * 29 + 14) = some (.int .i64 p.blk) := (prs_off h p.cells_blk p.pre_blk inf3 agg3 tsz3 rfl).2
@[simp high] theorem prs_swd (h : s.ps[i]? = some p) : sub Tryz.prog 4 (.agg (prsC s.ps)) (i * 29 + 15) = some (.bool p.swd) := (prs_off h p.cells_swd p.pre_swd inf4 agg4 tsz4 rfl).2
@[simp high] theorem Sys.pr_all (h : s.ps[i]? = some p) : sub Tryz.prog 47 (.agg s.cells) (110 + i * 29) = some (.agg p.cells) := by
  obtain ⟨h1, h2⟩ := prsC_at h
  have e1 : s.cells = (s.p110 ++ prsC (s.ps.take i)) ++ (p.cells ++ (prsC (s.ps.drop (i + 1)) ++ (s.c3.l ++ s.tail1))) := by rw [s.at110, h1]; simp
  rw [e1]; exact sub_agg inf47 agg47 (by simp [s.p110_len, h2]) (p.cells_len.trans tsz47.symm)
@[simp high] theorem prs_all (h : s.ps[i]? = some p) : sub Tryz.prog 47 (.agg (prsC s.ps)) (i * 29) = some (.agg p.cells) := by
  obtain ⟨h1, h2⟩ := prsC_at h
  rw [h1]; exact sub_agg inf47 agg47 h2 (p.cells_len.trans tsz47.symm)
end

def hasP (p : Pr) : Prop := (p.st = 1 ∨ p.st = 2) ∧ 1 ≤ p.blk
instance (p : Pr) : Decidable (hasP p) := by unfold hasP; infer_instance
theorem hasImage_eq (p : Pr) : bodyW DC 48 [.agg p.cells] [] = some (.bool (decide (hasP p)), []) := by
  unfold hasP
  by_cases h1 : p.st = 1 <;> by_cases h2 : p.st = 2 <;> by_cases h3 : 1 ≤ p.blk <;>
  · (refine gives_iff ?_; refine go_func Tryz.f48 rfl rfl (by simp [Tryz.f48]) ?_; dsimp only [codeL, Tryz.f48, scL, sopsL, guardL, dstAt, loopKey])
    (repeat (first
    | (apply is_ok; (case hw => simp [h1, h2, h3]); (case he => simp [h1, h2, h3]; exact is_rfl))
    | (apply op_no; (case hw => simp [h1, h2, h3]))
    | refine op_nil ?_ | refine next_normal ?_ | refine go_seq ?_ | refine go_region ?_ | refine go_skip ?_ | refine go_block ?_ | refine inb_normal ?_
    | (apply go_yes; (case hc => simp [h1, h2, h3])) | (apply go_no; (case hc => simp [h1, h2, h3]))
    | refine go_exit ?_ | refine next_exit ?_ | refine inb_here ?_ | refine inb_past (by decide) ?_ | refine go_ret ?_ | refine next_ret ?_ | refine inb_ret ?_))
    (apply ends_ok; (case h1 => simp; exact is_rfl); (case h2 => simp; exact is_rfl))
    simp [h1, h2, h3]
theorem hasR_eq (p : Pr) : bodyW DC 15 [.agg p.cells] [] = some (.bool (decide (hasP p)), []) := by
  unfold hasP
  by_cases h1 : p.st = 1 <;> by_cases h2 : p.st = 2 <;> by_cases h3 : 1 ≤ p.blk <;>
  · (refine gives_iff ?_; refine go_func Tryz.f15 rfl rfl (by simp [Tryz.f15]) ?_; dsimp only [codeL, Tryz.f15, scL, sopsL, guardL, dstAt, loopKey])
    (repeat (first
    | (apply is_ok; (case hw => simp [h1, h2, h3]); (case he => simp [h1, h2, h3]; exact is_rfl))
    | (apply op_no; (case hw => simp [h1, h2, h3]))
    | refine op_nil ?_ | refine next_normal ?_ | refine go_seq ?_ | refine go_region ?_ | refine go_skip ?_ | refine go_block ?_ | refine inb_normal ?_
    | (apply go_yes; (case hc => simp [h1, h2, h3])) | (apply go_no; (case hc => simp [h1, h2, h3]))
    | refine go_exit ?_ | refine next_exit ?_ | refine inb_here ?_ | refine inb_past (by decide) ?_ | refine go_ret ?_ | refine next_ret ?_ | refine inb_ret ?_))
    (apply ends_ok; (case h1 => simp; exact is_rfl); (case h2 => simp; exact is_rfl))
    simp [h1, h2, h3]
end Go.Abs

namespace Go.Abs
open Go.Proofs
set_option maxRecDepth 100000
set_option linter.unusedSimpArgs false
set_option linter.unusedVariables false

def BigP (a : Ex) : Prop := 0 ≤ a.1 ∧ a.1 ≤ 4000000 ∧ 0 ≤ a.2 ∧ a.2 ≤ 4000000

theorem fit1_eq (y x w : Ex) (st : List Int) (hy : BigP y) (hx : BigP x) : bodyW DC 53 [.agg [.int .i64 y.1, .int .i64 y.2], .ptr 2 1 0 0] [.box (.agg [.int .i64 w.1, .int .i64 w.2]), .dat true 1 (ints st), .box (.agg [.int .i64 x.1, .int .i64 x.2])] =
    some (.bool (decide (meetP x y)), [.box (.agg [.int .i64 w.1, .int .i64 w.2]), .dat true 1 (ints st), .box (.agg [.int .i64 x.1, .int .i64 x.2])]) := by
  have v1 := meet_eq x y hx hy
  (refine gives_iff ?_; refine go_func Tryz.f53 rfl rfl (by simp [Tryz.f53]) ?_; dsimp only [codeL, Tryz.f53, scL, sopsL, guardL, dstAt, loopKey])
  (repeat (first
    | (apply is_ok; (case hw => simp [v1]); (case he => simp [v1]; exact is_rfl))
    | (apply op_no; (case hw => simp [v1]))
    | refine op_nil ?_ | refine next_normal ?_ | refine go_seq ?_ | refine go_region ?_ | refine go_skip ?_ | refine go_block ?_ | refine inb_normal ?_
    | (apply go_yes; (case hc => simp [v1])) | (apply go_no; (case hc => simp [v1]))
    | refine go_exit ?_ | refine next_exit ?_ | refine inb_here ?_ | refine inb_past (by decide) ?_ | refine go_ret ?_ | refine next_ret ?_ | refine inb_ret ?_))
  (apply ends_ok; (case h1 => simp; exact is_rfl); (case h2 => simp; exact is_rfl))
  simp

@[simp] theorem callW_cap {C : Ctx} {d : Bool} {f : FuncId} {c : V} {cs xs : List V} {H : Heap} : callW C d (.fn f (c :: cs)) xs H = callW C d (.fn f []) (xs ++ c :: cs) H := by
  rw [callW_def, callW_def, List.append_nil]

/-- The index of the first extent that meets another one. -/
def idxI (x : Ex) (l : List Ex) : Int := match l.findIdx? (fun y => decide (meetP x y)) with | some i => (i : Int) | none => -1
theorem idxI_iff (x : Ex) (l : List Ex) : 0 ≤ idxI x l ↔ ∃ y ∈ l, meetP x y := by
  unfold idxI
  cases hc : l.findIdx? (fun y => decide (meetP x y)) with
  | none =>
    rw [List.findIdx?_eq_none_iff] at hc
    simp only [decide_eq_false_iff_not] at hc
    constructor
    · intro h; exact absurd h (by decide)
    · rintro ⟨y, hy, hm⟩; exact absurd hm (hc y hy)
  | some i =>
    rw [List.findIdx?_eq_some_iff_getElem] at hc
    obtain ⟨hi, hm, _⟩ := hc
    exact ⟨fun _ => ⟨l[i], List.getElem_mem hi, by simpa using hm⟩, fun _ => by simp⟩

theorem idx_eq (l : List Ex) (hl : l.length ≤ 1000) (hb : ∀ y ∈ l, BigP y) (x w : Ex) (st : List Int) (hx : BigP x) : bodyW DC 77 [.sl (l.map exV), .fn 53 [.ptr 2 1 0 0]] [.box (.agg [.int .i64 w.1, .int .i64 w.2]), .dat true 1 (ints st), .box (.agg [.int .i64 x.1, .int .i64 x.2])] =
    some (.int .i64 (idxI x l), [.box (.agg [.int .i64 w.1, .int .i64 w.2]), .dat true 1 (ints st), .box (.agg [.int .i64 x.1, .int .i64 x.2])]) := by
  generalize hR : idxI x l = R
  unfold idxI at hR
  (refine gives_iff ?_; refine go_func Tryz.f77 rfl rfl (by simp [Tryz.f77]) ?_; dsimp only [codeL, Tryz.f77, scL, sopsL, guardL, dstAt, loopKey])
  (repeat (first
    | (apply is_ok; (case hw => simp); (case he => simp; exact is_rfl))
    | (apply op_no; (case hw => simp))
    | refine op_nil ?_ | refine next_normal ?_ | refine go_seq ?_ | refine go_region ?_ | refine go_skip ?_ | refine go_block ?_ | refine inb_normal ?_
    | (apply go_yes; (case hc => simp)) | (apply go_no; (case hc => simp))
    | refine go_exit ?_ | refine next_exit ?_ | refine inb_here ?_ | refine inb_past (by decide) ?_ | refine go_ret ?_ | refine next_ret ?_ | refine inb_ret ?_))
  refine go_count l.length (fun i => [(0, .sl (l.map exV)), (1, .fn 53 [.ptr 2 1 0 0]), (7, .int .i64 l.length), (8, .int .i64 i)]) (fun _ => [.box (.agg [.int .i64 w.1, .int .i64 w.2]), .dat true 1 (ints st), .box (.agg [.int .i64 x.1, .int .i64 x.2])]) (fun i => ∀ j (h : j < l.length), j < i → ¬ meetP x l[j]) (by simp) (fun j _ h => absurd h (Nat.not_lt_zero j)) fun i hi hI => ?_
  by_cases hlt : i < l.length
  · have g1 : (i : Int) < l.length := by omega
    have g2 : l[i]? = some l[i] := List.getElem?_eq_getElem hlt
    have w1 : IntKind.i64.wrap ((i : Int) + 1) = (i : Int) + 1 := wrap_id (by omega) (by omega)
    have v1 := fit1_eq l[i] x w st (hb _ (List.getElem_mem hlt)) hx
    by_cases hm : meetP x l[i]
    · rw [decide_eq_true hm] at v1
      have hf : l.findIdx? (fun y => decide (meetP x y)) = some i := by
        rw [List.findIdx?_eq_some_iff_getElem]
        exact ⟨hlt, by simpa using hm, fun j hj => by simpa using hI j (by omega) hj⟩
      rw [hf] at hR
      simp only at hR
      subst hR
      (repeat (first
    | (apply is_ok; (case hw => simp [g1, g2, hlt, v1, exV]); (case he => simp [g1, g2, hlt, v1, exV]; exact is_rfl))
    | (apply op_no; (case hw => simp [g1, g2, hlt, v1, exV]))
    | refine op_nil ?_ | refine next_normal ?_ | refine go_seq ?_ | refine go_region ?_ | refine go_skip ?_ | refine go_block ?_ | refine inb_normal ?_
    | (apply go_yes; (case hc => simp [g1, g2, hlt, v1, exV])) | (apply go_no; (case hc => simp [g1, g2, hlt, v1, exV]))
    | refine go_exit ?_ | refine next_exit ?_ | refine inb_here ?_ | refine inb_past (by decide) ?_ | refine go_ret ?_ | refine next_ret ?_ | refine inb_ret ?_))
      (apply ends_ok; (case h1 => simp; exact is_rfl); (case h2 => simp; exact is_rfl))
      simp
    · rw [decide_eq_false hm] at v1
      (repeat (first
    | (apply is_ok; (case hw => simp [g1, g2, hlt, v1, w1, exV]); (case he => simp [g1, g2, hlt, v1, w1, exV]; exact is_rfl))
    | (apply op_no; (case hw => simp [g1, g2, hlt, v1, w1, exV]))
    | refine op_nil ?_ | refine next_normal ?_ | refine go_seq ?_ | refine go_region ?_ | refine go_skip ?_ | refine go_block ?_ | refine inb_normal ?_
    | (apply go_yes; (case hc => simp [g1, g2, hlt, v1, w1, exV])) | (apply go_no; (case hc => simp [g1, g2, hlt, v1, w1, exV]))
    | refine go_exit ?_ | refine next_exit ?_ | refine inb_here ?_ | refine inb_past (by decide) ?_ | refine go_ret ?_ | refine next_ret ?_ | refine inb_ret ?_))
      exact ⟨hlt, by simp [exV, w1], fun j h hj => by
        rcases Nat.lt_or_ge j i with h1 | h1
        · exact hI j h h1
        · have : j = i := by omega
          subst this
          exact hm⟩
  · have g1 : ¬ (i : Int) < l.length := by omega
    have hf : l.findIdx? (fun y => decide (meetP x y)) = none := by
      rw [List.findIdx?_eq_none_iff]
      intro y hy
      obtain ⟨j, hj, rfl⟩ := List.mem_iff_getElem.1 hy
      simpa using hI j hj (by omega)
    rw [hf] at hR
    simp only at hR
    subst hR
    (repeat (first
    | (apply is_ok; (case hw => simp [g1]); (case he => simp [g1]; exact is_rfl))
    | (apply op_no; (case hw => simp [g1]))
    | refine op_nil ?_ | refine next_normal ?_ | refine go_seq ?_ | refine go_region ?_ | refine go_skip ?_ | refine go_block ?_ | refine inb_normal ?_
    | (apply go_yes; (case hc => simp [g1])) | (apply go_no; (case hc => simp [g1]))
    | refine go_exit ?_ | refine next_exit ?_ | refine inb_here ?_ | refine inb_past (by decide) ?_ | refine go_ret ?_ | refine next_ret ?_ | refine inb_ret ?_))
    (apply ends_ok; (case h1 => simp; exact is_rfl); (case h2 => simp; exact is_rfl))
    simp

theorem cont_eq (l : List Ex) (hl : l.length ≤ 1000) (hb : ∀ y ∈ l, BigP y) (x w : Ex) (st : List Int) (hx : BigP x) : bodyW DC 52 [.sl (l.map exV), .fn 53 [.ptr 2 1 0 0]] [.box (.agg [.int .i64 w.1, .int .i64 w.2]), .dat true 1 (ints st), .box (.agg [.int .i64 x.1, .int .i64 x.2])] =
    some (.bool (decide (∃ y ∈ l, meetP x y)), [.box (.agg [.int .i64 w.1, .int .i64 w.2]), .dat true 1 (ints st), .box (.agg [.int .i64 x.1, .int .i64 x.2])]) := by
  have v1 := idx_eq l hl hb x w st hx
  have v2 := idxI_iff x l
  generalize idxI x l = r at v1 v2
  (refine gives_iff ?_; refine go_func Tryz.f52 rfl rfl (by simp [Tryz.f52]) ?_; dsimp only [codeL, Tryz.f52, scL, sopsL, guardL, dstAt, loopKey])
  (repeat (first
    | (apply is_ok; (case hw => simp [v1]); (case he => simp [v1]; exact is_rfl))
    | (apply op_no; (case hw => simp [v1]))
    | refine op_nil ?_ | refine next_normal ?_ | refine go_seq ?_ | refine go_region ?_ | refine go_skip ?_ | refine go_block ?_ | refine inb_normal ?_
    | (apply go_yes; (case hc => simp [v1])) | (apply go_no; (case hc => simp [v1]))
    | refine go_exit ?_ | refine next_exit ?_ | refine inb_here ?_ | refine inb_past (by decide) ?_ | refine go_ret ?_ | refine next_ret ?_ | refine inb_ret ?_))
  (apply ends_ok; (case h1 => simp; exact is_rfl); (case h2 => simp; exact is_rfl))
  exact ⟨by congr 1; exact decide_eq_decide.2 v2, rfl⟩
end Go.Abs

namespace Go.Abs
open Go.Proofs
set_option maxRecDepth 100000
set_option linter.unusedSimpArgs false
set_option linter.unusedVariables false

theorem meetP_comm (a b : Ex) : meetP a b ↔ meetP b a := by unfold meetP; constructor <;> (rintro ⟨h1, h2, h3, h4⟩; exact ⟨h2, h1, h4, h3⟩)

theorem freeR_eq (l : List Ex) (hl : l.length ≤ 1000) (hb : ∀ y ∈ l, BigP y) (w : Ex) (hw : BigP w) (n k : Int) (hn : 0 ≤ n ∧ n ≤ 4000000) (hk : 0 < k ∧ k ≤ 4000000) :
    bodyW DC 60 [.sl (l.map exV), .agg [.int .i64 w.1, .int .i64 w.2], .agg [.int .i64 n, .int .i64 k]] [] = some (.bool (decide (roomP l w k n)), []) := by
  have hx : BigP (n, k) := ⟨hn.1, hn.2, by omega, hk.2⟩
  (refine gives_iff ?_; refine go_func Tryz.f60 rfl rfl (by simp [Tryz.f60]) ?_; dsimp only [codeL, Tryz.f60, scL, sopsL, guardL, dstAt, loopKey])
  (repeat (first
    | (apply is_ok; (case hw => simp); (case he => simp; exact is_rfl))
    | (apply op_no; (case hw => simp))
    | refine op_nil ?_ | refine next_normal ?_ | refine go_seq ?_ | refine go_region ?_ | refine go_skip ?_ | refine go_block ?_ | refine inb_normal ?_
    | (apply go_yes; (case hc => simp)) | (apply go_no; (case hc => simp))
    | refine go_exit ?_ | refine next_exit ?_ | refine inb_here ?_ | refine inb_past (by decide) ?_ | refine go_ret ?_ | refine next_ret ?_ | refine inb_ret ?_))
  refine go_count l.length (fun i => [(0, .sl (l.map exV)), (4, .ptr 0 1 0 0), (5, .ptr 1 1 0 0), (7, .int .i64 i)]) (fun _ => [.box (.agg [.int .i64 w.1, .int .i64 w.2]), .box (.agg [.int .i64 n, .int .i64 k])]) (fun i => ∀ j (h : j < l.length), j < i → ¬ meetP (n, k) l[j]) (by simp) (fun j _ h => absurd h (Nat.not_lt_zero j)) fun i hi hI => ?_
  by_cases hlt : i < l.length
  · have g1 : (i : Int) < l.length := by omega
    have g2 : l[i]? = some l[i] := List.getElem?_eq_getElem hlt
    have w1 : IntKind.i64.wrap ((i : Int) + 1) = (i : Int) + 1 := wrap_id (by omega) (by omega)
    have v1 := Meet_eq l[i] (n, k) (hb _ (List.getElem_mem hlt)) hx
    by_cases hm : meetP (n, k) l[i]
    · rw [decide_eq_true ((meetP_comm _ _).1 hm)] at v1
      have hf : ¬ roomP l w k n := fun h => h.1 _ (List.getElem_mem hlt) hm
      rw [decide_eq_false hf]
      simp only at v1
      (repeat (first
    | (apply is_ok; (case hw => simp [g1, g2, hlt, v1, exV]); (case he => simp [g1, g2, hlt, v1, exV]; exact is_rfl))
    | (apply op_no; (case hw => simp [g1, g2, hlt, v1, exV]))
    | refine op_nil ?_ | refine next_normal ?_ | refine go_seq ?_ | refine go_region ?_ | refine go_skip ?_ | refine go_block ?_ | refine inb_normal ?_
    | (apply go_yes; (case hc => simp [g1, g2, hlt, v1, exV])) | (apply go_no; (case hc => simp [g1, g2, hlt, v1, exV]))
    | refine go_exit ?_ | refine next_exit ?_ | refine inb_here ?_ | refine inb_past (by decide) ?_ | refine go_ret ?_ | refine next_ret ?_ | refine inb_ret ?_))
      (apply ends_ok; (case h1 => simp; exact is_rfl); (case h2 => simp; exact is_rfl))
      simp
    · rw [decide_eq_false (fun h => hm ((meetP_comm _ _).1 h))] at v1
      simp only at v1
      (repeat (first
    | (apply is_ok; (case hw => simp [g1, g2, hlt, v1, w1, exV]); (case he => simp [g1, g2, hlt, v1, w1, exV]; exact is_rfl))
    | (apply op_no; (case hw => simp [g1, g2, hlt, v1, w1, exV]))
    | refine op_nil ?_ | refine next_normal ?_ | refine go_seq ?_ | refine go_region ?_ | refine go_skip ?_ | refine go_block ?_ | refine inb_normal ?_
    | (apply go_yes; (case hc => simp [g1, g2, hlt, v1, w1, exV])) | (apply go_no; (case hc => simp [g1, g2, hlt, v1, w1, exV]))
    | refine go_exit ?_ | refine next_exit ?_ | refine inb_here ?_ | refine inb_past (by decide) ?_ | refine go_ret ?_ | refine next_ret ?_ | refine inb_ret ?_))
      exact ⟨hlt, by simp [exV, w1], fun j h hj => by
        rcases Nat.lt_or_ge j i with h1 | h1
        · exact hI j h h1
        · have : j = i := by omega
          subst this
          exact hm⟩
  · have g1 : ¬ (i : Int) < l.length := by omega
    have v2 := Within_eq (n, k) w ⟨hn.1, hn.2, hk.1, hk.2⟩ hw
    have hf : decide (roomP l w k n) = decide (w.1 ≤ n ∧ n + k ≤ w.1 + w.2) := by
      apply decide_eq_decide.2
      constructor
      · exact fun h => h.2
      · refine fun h => ⟨fun y hy => ?_, h⟩
        obtain ⟨j, hj, rfl⟩ := List.mem_iff_getElem.1 hy
        exact hI j hj (by omega)
    rw [hf]
    simp only at v2
    generalize decide (w.1 ≤ n ∧ n + k ≤ w.1 + w.2) = b at v2
    (repeat (first
    | (apply is_ok; (case hw => simp [g1, v2]); (case he => simp [g1, v2]; exact is_rfl))
    | (apply op_no; (case hw => simp [g1, v2]))
    | refine op_nil ?_ | refine next_normal ?_ | refine go_seq ?_ | refine go_region ?_ | refine go_skip ?_ | refine go_block ?_ | refine inb_normal ?_
    | (apply go_yes; (case hc => simp [g1, v2])) | (apply go_no; (case hc => simp [g1, v2]))
    | refine go_exit ?_ | refine next_exit ?_ | refine inb_here ?_ | refine inb_past (by decide) ?_ | refine go_ret ?_ | refine next_ret ?_ | refine inb_ret ?_))
    (apply ends_ok; (case h1 => simp; exact is_rfl); (case h2 => simp; exact is_rfl))
    simp

/-- All places that the reference looks at. -/
def allC (l : List Ex) (w : Ex) : List Int := w.1 :: l.map fun y => y.1 + y.2
def bestS (l : List Ex) (w : Ex) (k : Int) (b n : Int) : Int := if roomP l w k n ∧ (b < 0 ∨ n < b) then n else b
def bestF (l : List Ex) (w : Ex) (k : Int) (cs : List Int) : Int := cs.foldl (bestS l w k) (-1)
theorem bestF_snoc (l : List Ex) (w : Ex) (k : Int) (cs : List Int) (n : Int) : bestF l w k (cs ++ [n]) = bestS l w k (bestF l w k cs) n := by simp [bestF]

theorem FitR_eq (l : List Ex) (hl : l.length ≤ 100) (hb : ∀ y ∈ l, UsuP y) (w : Ex) (hw : UsuP w) (k : Int) : bodyW DC 26 [.sl (l.map exV), .agg [.int .i64 w.1, .int .i64 w.2], .int .i64 k] [] =
    some (if k < 1 ∨ 1048576 < k then .tuple [.int .i64 0, .bool false] else if bestF l w k (allC l w) < 0 then .tuple [.int .i64 0, .bool false] else .tuple [.int .i64 (bestF l w k (allC l w)), .bool true], []) := by
  by_cases h1 : k < 1
  · rw [if_pos (.inl h1)]
    (refine gives_iff ?_; refine go_func Tryz.f26 rfl rfl (by simp [Tryz.f26]) ?_; dsimp only [codeL, Tryz.f26, scL, sopsL, guardL, dstAt, loopKey])
    (repeat (first
    | (apply is_ok; (case hw => simp [h1]); (case he => simp [h1]; exact is_rfl))
    | (apply op_no; (case hw => simp [h1]))
    | refine op_nil ?_ | refine next_normal ?_ | refine go_seq ?_ | refine go_region ?_ | refine go_skip ?_ | refine go_block ?_ | refine inb_normal ?_
    | (apply go_yes; (case hc => simp [h1])) | (apply go_no; (case hc => simp [h1]))
    | refine go_exit ?_ | refine next_exit ?_ | refine inb_here ?_ | refine inb_past (by decide) ?_ | refine go_ret ?_ | refine next_ret ?_ | refine inb_ret ?_))
    (apply ends_ok; (case h1 => simp; exact is_rfl); (case h2 => simp; exact is_rfl))
    simp
  by_cases h2 : 1048576 < k
  · rw [if_pos (.inr h2)]
    (refine gives_iff ?_; refine go_func Tryz.f26 rfl rfl (by simp [Tryz.f26]) ?_; dsimp only [codeL, Tryz.f26, scL, sopsL, guardL, dstAt, loopKey])
    (repeat (first
    | (apply is_ok; (case hw => simp [h1, h2]); (case he => simp [h1, h2]; exact is_rfl))
    | (apply op_no; (case hw => simp [h1, h2]))
    | refine op_nil ?_ | refine next_normal ?_ | refine go_seq ?_ | refine go_region ?_ | refine go_skip ?_ | refine go_block ?_ | refine inb_normal ?_
    | (apply go_yes; (case hc => simp [h1, h2])) | (apply go_no; (case hc => simp [h1, h2]))
    | refine go_exit ?_ | refine next_exit ?_ | refine inb_here ?_ | refine inb_past (by decide) ?_ | refine go_ret ?_ | refine next_ret ?_ | refine inb_ret ?_))
    (apply ends_ok; (case h1 => simp; exact is_rfl); (case h2 => simp; exact is_rfl))
    simp
  rw [if_neg (by omega)]
  have hB : ∀ y ∈ l, BigP y := fun y hy => by obtain ⟨a, b, c, d⟩ := hb y hy; exact ⟨a, by omega, c, by omega⟩
  have hW : BigP w := by obtain ⟨a, b, c, d⟩ := hw; exact ⟨a, by omega, c, by omega⟩
  generalize hR : bestF l w k (allC l w) = R
  (refine gives_iff ?_; refine go_func Tryz.f26 rfl rfl (by simp [Tryz.f26]) ?_; dsimp only [codeL, Tryz.f26, scL, sopsL, guardL, dstAt, loopKey])
  (repeat (first
    | (apply is_ok; (case hw => simp [h1, h2]); (case he => simp [h1, h2]; exact is_rfl))
    | (apply op_no; (case hw => simp [h1, h2]))
    | refine op_nil ?_ | refine next_normal ?_ | refine go_seq ?_ | refine go_region ?_ | refine go_skip ?_ | refine go_block ?_ | refine inb_normal ?_
    | (apply go_yes; (case hc => simp [h1, h2])) | (apply go_no; (case hc => simp [h1, h2]))
    | refine go_exit ?_ | refine next_exit ?_ | refine inb_here ?_ | refine inb_past (by decide) ?_ | refine go_ret ?_ | refine next_ret ?_ | refine inb_ret ?_))
  refine go_count (l.length + 1) (fun i => [(0, .sl (l.map exV)), (2, .int .i64 k), (4, .ptr 0 1 0 0), (8, .int .i64 (bestF l w k ((allC l w).take i))), (9, .int .i64 ((i : Int) - 1))]) (fun _ => [.box (.agg [.int .i64 w.1, .int .i64 w.2])]) (fun i => True) (by simp [bestF]) trivial fun i hi _ => ?_
  have hlen : (allC l w).length = l.length + 1 := by simp [allC]
  by_cases hlt : i < l.length + 1
  · have g1 : (i : Int) - 1 < l.length := by omega
    have w1 : IntKind.i64.wrap ((i : Int) - 1 + 1) = (i : Int) := by rw [wrap_id (by omega) (by omega)]; omega
    have hs : bestF l w k ((allC l w).take (i + 1)) = bestS l w k (bestF l w k ((allC l w).take i)) ((allC l w)[i]'(by omega)) := by
      rw [List.take_succ_eq_append_getElem (by omega), bestF_snoc]
    rw [hs]
    generalize bestF l w k ((allC l w).take i) = B
    cases i with
    | zero =>
      have e0 : (allC l w)[0]'(by omega) = w.1 := rfl
      rw [e0]
      have hn : 0 ≤ w.1 ∧ w.1 ≤ 4000000 := ⟨hW.1, hW.2.1⟩
      have e1 : ¬ ((l.length : Int) ≤ -1) := by omega
      have e2 : (-1 : Int) < l.length := by omega
      by_cases c1 : w.1 ≤ w.1
      · have v := freeR_eq l (by omega) hB w hW w.1 k hn ⟨by omega, by omega⟩
        by_cases c2 : roomP l w k w.1
        · rw [decide_eq_true c2] at v
          by_cases c3 : B < 0
          · rw [show bestS l w k B w.1 = w.1 from if_pos ⟨c2, .inl c3⟩]
            (repeat (first
    | (apply is_ok; (case hw => simp [e2, w1, c3, v]); (case he => simp [e2, w1, c3, v]; exact is_rfl))
    | (apply op_no; (case hw => simp [e2, w1, c3, v]))
    | refine op_nil ?_ | refine next_normal ?_ | refine go_seq ?_ | refine go_region ?_ | refine go_skip ?_ | refine go_block ?_ | refine inb_normal ?_
    | (apply go_yes; (case hc => simp [e2, w1, c3, v])) | (apply go_no; (case hc => simp [e2, w1, c3, v]))
    | refine go_exit ?_ | refine next_exit ?_ | refine inb_here ?_ | refine inb_past (by decide) ?_ | refine go_ret ?_ | refine next_ret ?_ | refine inb_ret ?_))
            exact ⟨hlt, by simp [exV, w1], trivial⟩
          · by_cases c4 : w.1 < B
            · rw [show bestS l w k B w.1 = w.1 from if_pos ⟨c2, .inr c4⟩]
              (repeat (first
    | (apply is_ok; (case hw => simp [e2, w1, c3, c4, v]); (case he => simp [e2, w1, c3, c4, v]; exact is_rfl))
    | (apply op_no; (case hw => simp [e2, w1, c3, c4, v]))
    | refine op_nil ?_ | refine next_normal ?_ | refine go_seq ?_ | refine go_region ?_ | refine go_skip ?_ | refine go_block ?_ | refine inb_normal ?_
    | (apply go_yes; (case hc => simp [e2, w1, c3, c4, v])) | (apply go_no; (case hc => simp [e2, w1, c3, c4, v]))
    | refine go_exit ?_ | refine next_exit ?_ | refine inb_here ?_ | refine inb_past (by decide) ?_ | refine go_ret ?_ | refine next_ret ?_ | refine inb_ret ?_))
              exact ⟨hlt, by simp [exV, w1], trivial⟩
            · rw [show bestS l w k B w.1 = B from if_neg (fun h => h.2.elim c3 c4)]
              (repeat (first
    | (apply is_ok; (case hw => simp [e2, w1, c3, c4, v]); (case he => simp [e2, w1, c3, c4, v]; exact is_rfl))
    | (apply op_no; (case hw => simp [e2, w1, c3, c4, v]))
    | refine op_nil ?_ | refine next_normal ?_ | refine go_seq ?_ | refine go_region ?_ | refine go_skip ?_ | refine go_block ?_ | refine inb_normal ?_
    | (apply go_yes; (case hc => simp [e2, w1, c3, c4, v])) | (apply go_no; (case hc => simp [e2, w1, c3, c4, v]))
    | refine go_exit ?_ | refine next_exit ?_ | refine inb_here ?_ | refine inb_past (by decide) ?_ | refine go_ret ?_ | refine next_ret ?_ | refine inb_ret ?_))
              exact ⟨hlt, by simp [exV, w1], trivial⟩
        · rw [decide_eq_false c2] at v
          rw [show bestS l w k B w.1 = B from if_neg (fun h => c2 h.1)]
          (repeat (first
    | (apply is_ok; (case hw => simp [e2, w1, v]); (case he => simp [e2, w1, v]; exact is_rfl))
    | (apply op_no; (case hw => simp [e2, w1, v]))
    | refine op_nil ?_ | refine next_normal ?_ | refine go_seq ?_ | refine go_region ?_ | refine go_skip ?_ | refine go_block ?_ | refine inb_normal ?_
    | (apply go_yes; (case hc => simp [e2, w1, v])) | (apply go_no; (case hc => simp [e2, w1, v]))
    | refine go_exit ?_ | refine next_exit ?_ | refine inb_here ?_ | refine inb_past (by decide) ?_ | refine go_ret ?_ | refine next_ret ?_ | refine inb_ret ?_))
          exact ⟨hlt, by simp [exV, w1], trivial⟩
      · exact absurd (Int.le_refl _) c1
    | succ j =>
      have hj : j < l.length := by omega
      have e0 : (allC l w)[j + 1]'(by omega) = l[j].1 + l[j].2 := by simp [allC]
      rw [e0]
      obtain ⟨a1, a2, a3, a4⟩ := hb l[j] (List.getElem_mem hj)
      have g2 : l[j]? = some l[j] := List.getElem?_eq_getElem hj
      have g3 : (j : Int) < l.length := by omega
      have g4 : (0 : Int) ≤ j := by omega
      have w3 : IntKind.i64.wrap ((j : Int) + 1) = (j : Int) + 1 := wrap_id (by omega) (by omega)
      obtain ⟨n, hn0⟩ : ∃ n, n = l[j].1 + l[j].2 := ⟨_, rfl⟩
      have hn : 0 ≤ n ∧ n ≤ 4000000 := by omega
      have w2 : IntKind.i64.wrap (l[j].1 + l[j].2) = n := by rw [hn0]; exact wrap_id (by omega) (by omega)
      rw [← hn0]
      by_cases c1 : w.1 ≤ n
      · have v := freeR_eq l (by omega) hB w hW n k hn ⟨by omega, by omega⟩
        by_cases c2 : roomP l w k n
        · rw [decide_eq_true c2] at v
          by_cases c3 : B < 0
          · rw [show bestS l w k B n = n from if_pos ⟨c2, .inl c3⟩]
            (repeat (first
    | (apply is_ok; (case hw => simp [g2, g3, g4, hj, w2, w3, exV, c1, c3, v]); (case he => simp [g2, g3, g4, hj, w2, w3, exV, c1, c3, v]; exact is_rfl))
    | (apply op_no; (case hw => simp [g2, g3, g4, hj, w2, w3, exV, c1, c3, v]))
    | refine op_nil ?_ | refine next_normal ?_ | refine go_seq ?_ | refine go_region ?_ | refine go_skip ?_ | refine go_block ?_ | refine inb_normal ?_
    | (apply go_yes; (case hc => simp [g2, g3, g4, hj, w2, w3, exV, c1, c3, v])) | (apply go_no; (case hc => simp [g2, g3, g4, hj, w2, w3, exV, c1, c3, v]))
    | refine go_exit ?_ | refine next_exit ?_ | refine inb_here ?_ | refine inb_past (by decide) ?_ | refine go_ret ?_ | refine next_ret ?_ | refine inb_ret ?_))
            exact ⟨hlt, by simp [exV, w3], trivial⟩
          · by_cases c4 : n < B
            · rw [show bestS l w k B n = n from if_pos ⟨c2, .inr c4⟩]
              (repeat (first
    | (apply is_ok; (case hw => simp [g2, g3, g4, hj, w2, w3, exV, c1, c3, c4, v]); (case he => simp [g2, g3, g4, hj, w2, w3, exV, c1, c3, c4, v]; exact is_rfl))
    | (apply op_no; (case hw => simp [g2, g3, g4, hj, w2, w3, exV, c1, c3, c4, v]))
    | refine op_nil ?_ | refine next_normal ?_ | refine go_seq ?_ | refine go_region ?_ | refine go_skip ?_ | refine go_block ?_ | refine inb_normal ?_
    | (apply go_yes; (case hc => simp [g2, g3, g4, hj, w2, w3, exV, c1, c3, c4, v])) | (apply go_no; (case hc => simp [g2, g3, g4, hj, w2, w3, exV, c1, c3, c4, v]))
    | refine go_exit ?_ | refine next_exit ?_ | refine inb_here ?_ | refine inb_past (by decide) ?_ | refine go_ret ?_ | refine next_ret ?_ | refine inb_ret ?_))
              exact ⟨hlt, by simp [exV, w3], trivial⟩
            · rw [show bestS l w k B n = B from if_neg (fun h => h.2.elim c3 c4)]
              (repeat (first
    | (apply is_ok; (case hw => simp [g2, g3, g4, hj, w2, w3, exV, c1, c3, c4, v]); (case he => simp [g2, g3, g4, hj, w2, w3, exV, c1, c3, c4, v]; exact is_rfl))
    | (apply op_no; (case hw => simp [g2, g3, g4, hj, w2, w3, exV, c1, c3, c4, v]))
    | refine op_nil ?_ | refine next_normal ?_ | refine go_seq ?_ | refine go_region ?_ | refine go_skip ?_ | refine go_block ?_ | refine inb_normal ?_
    | (apply go_yes; (case hc => simp [g2, g3, g4, hj, w2, w3, exV, c1, c3, c4, v])) | (apply go_no; (case hc => simp [g2, g3, g4, hj, w2, w3, exV, c1, c3, c4, v]))
    | refine go_exit ?_ | refine next_exit ?_ | refine inb_here ?_ | refine inb_past (by decide) ?_ | refine go_ret ?_ | refine next_ret ?_ | refine inb_ret ?_))
              exact ⟨hlt, by simp [exV, w3], trivial⟩
        · rw [decide_eq_false c2] at v
          rw [show bestS l w k B n = B from if_neg (fun h => c2 h.1)]
          (repeat (first
    | (apply is_ok; (case hw => simp [g2, g3, g4, hj, w2, w3, exV, c1, v]); (case he => simp [g2, g3, g4, hj, w2, w3, exV, c1, v]; exact is_rfl))
    | (apply op_no; (case hw => simp [g2, g3, g4, hj, w2, w3, exV, c1, v]))
    | refine op_nil ?_ | refine next_normal ?_ | refine go_seq ?_ | refine go_region ?_ | refine go_skip ?_ | refine go_block ?_ | refine inb_normal ?_
    | (apply go_yes; (case hc => simp [g2, g3, g4, hj, w2, w3, exV, c1, v])) | (apply go_no; (case hc => simp [g2, g3, g4, hj, w2, w3, exV, c1, v]))
    | refine go_exit ?_ | refine next_exit ?_ | refine inb_here ?_ | refine inb_past (by decide) ?_ | refine go_ret ?_ | refine next_ret ?_ | refine inb_ret ?_))
          exact ⟨hlt, by simp [exV, w3], trivial⟩
      · have c2 : ¬ roomP l w k n := fun h => c1 h.2.1
        rw [show bestS l w k B n = B from if_neg (fun h => c2 h.1)]
        (repeat (first
    | (apply is_ok; (case hw => simp [g2, g3, g4, hj, w2, w3, exV, c1]); (case he => simp [g2, g3, g4, hj, w2, w3, exV, c1]; exact is_rfl))
    | (apply op_no; (case hw => simp [g2, g3, g4, hj, w2, w3, exV, c1]))
    | refine op_nil ?_ | refine next_normal ?_ | refine go_seq ?_ | refine go_region ?_ | refine go_skip ?_ | refine go_block ?_ | refine inb_normal ?_
    | (apply go_yes; (case hc => simp [g2, g3, g4, hj, w2, w3, exV, c1])) | (apply go_no; (case hc => simp [g2, g3, g4, hj, w2, w3, exV, c1]))
    | refine go_exit ?_ | refine next_exit ?_ | refine inb_here ?_ | refine inb_past (by decide) ?_ | refine go_ret ?_ | refine next_ret ?_ | refine inb_ret ?_))
        exact ⟨hlt, by simp [exV, w3], trivial⟩
  · have : i = l.length + 1 := by omega
    subst this
    rw [List.take_of_length_le (by omega), hR]
    have g1 : ¬ ((l.length + 1 : Nat) : Int) - 1 < l.length := by omega
    have g2 : ((l.length + 1 : Nat) : Int) - 1 = l.length := by omega
    rw [g2]
    by_cases h3 : R < 0
    · (repeat (first
    | (apply is_ok; (case hw => simp [h3]); (case he => simp [h3]; exact is_rfl))
    | (apply op_no; (case hw => simp [h3]))
    | refine op_nil ?_ | refine next_normal ?_ | refine go_seq ?_ | refine go_region ?_ | refine go_skip ?_ | refine go_block ?_ | refine inb_normal ?_
    | (apply go_yes; (case hc => simp [h3])) | (apply go_no; (case hc => simp [h3]))
    | refine go_exit ?_ | refine next_exit ?_ | refine inb_here ?_ | refine inb_past (by decide) ?_ | refine go_ret ?_ | refine next_ret ?_ | refine inb_ret ?_))
      (apply ends_ok; (case h1 => simp; exact is_rfl); (case h2 => simp; exact is_rfl))
      simp [h3]
    · (repeat (first
    | (apply is_ok; (case hw => simp [h3]); (case he => simp [h3]; exact is_rfl))
    | (apply op_no; (case hw => simp [h3]))
    | refine op_nil ?_ | refine next_normal ?_ | refine go_seq ?_ | refine go_region ?_ | refine go_skip ?_ | refine go_block ?_ | refine inb_normal ?_
    | (apply go_yes; (case hc => simp [h3])) | (apply go_no; (case hc => simp [h3]))
    | refine go_exit ?_ | refine next_exit ?_ | refine inb_here ?_ | refine inb_past (by decide) ?_ | refine go_ret ?_ | refine next_ret ?_ | refine inb_ret ?_))
      (apply ends_ok; (case h1 => simp; exact is_rfl); (case h2 => simp; exact is_rfl))
      simp [h3]
end Go.Abs

namespace Go.Abs
open Go.Proofs
set_option maxRecDepth 100000
set_option linter.unusedSimpArgs false
set_option linter.unusedVariables false

/-- The places that the program looks at. -/
def posC (l : List Ex) (w : Ex) : List Int := w.1 :: (l.filter fun y => decide (0 < y.2)).map fun y => y.1 + y.2
theorem posC_take {l : List Ex} {w : Ex} {i : Nat} (h : i < l.length) : posC (l.take (i + 1)) w = if 0 < l[i].2 then posC (l.take i) w ++ [l[i].1 + l[i].2] else posC (l.take i) w := by
  unfold posC
  rw [List.take_succ_eq_append_getElem h, List.filter_append, List.map_append]
  by_cases hc : 0 < l[i].2 <;> simp [hc]
theorem posC_length (l : List Ex) (w : Ex) : (posC l w).length ≤ l.length + 1 := by
  unfold posC
  rw [List.length_cons, List.length_map]
  have := List.length_filter_le (fun y : Ex => decide (0 < y.2)) l
  omega

theorem Fit_eq (l : List Ex) (hl : l.length ≤ 100) (hb : ∀ y ∈ l, UsuP y) (w : Ex) (hw : UsuP w) (k : Int) : bodyW DC 21 [.sl (l.map exV), .agg [.int .i64 w.1, .int .i64 w.2], .int .i64 k] [] =
    some (if k < 1 ∨ w.2 < k then .tuple [.int .i64 0, .bool false] else match leastR l w k (posC l w) with | some n => .tuple [.int .i64 n, .bool true] | none => .tuple [.int .i64 0, .bool false], []) := by
  by_cases h1 : k < 1
  · rw [if_pos (.inl h1)]
    (refine gives_iff ?_; refine go_func Tryz.f21 rfl rfl (by simp [Tryz.f21]) ?_; dsimp only [codeL, Tryz.f21, scL, sopsL, guardL, dstAt, loopKey])
    (repeat (first
    | (apply is_ok; (case hw => simp [h1]); (case he => simp [h1]; exact is_rfl))
    | (apply op_no; (case hw => simp [h1]))
    | refine op_nil ?_ | refine next_normal ?_ | refine go_seq ?_ | refine go_region ?_ | refine go_skip ?_ | refine go_block ?_ | refine inb_normal ?_
    | (apply go_yes; (case hc => simp [h1])) | (apply go_no; (case hc => simp [h1]))
    | refine go_exit ?_ | refine next_exit ?_ | refine inb_here ?_ | refine inb_past (by decide) ?_ | refine go_ret ?_ | refine next_ret ?_ | refine inb_ret ?_))
    (apply ends_ok; (case h1 => simp; exact is_rfl); (case h2 => simp; exact is_rfl))
    simp
  by_cases h2 : w.2 < k
  · rw [if_pos (.inr h2)]
    (refine gives_iff ?_; refine go_func Tryz.f21 rfl rfl (by simp [Tryz.f21]) ?_; dsimp only [codeL, Tryz.f21, scL, sopsL, guardL, dstAt, loopKey])
    (repeat (first
    | (apply is_ok; (case hw => simp [h1, h2]); (case he => simp [h1, h2]; exact is_rfl))
    | (apply op_no; (case hw => simp [h1, h2]))
    | refine op_nil ?_ | refine next_normal ?_ | refine go_seq ?_ | refine go_region ?_ | refine go_skip ?_ | refine go_block ?_ | refine inb_normal ?_
    | (apply go_yes; (case hc => simp [h1, h2])) | (apply go_no; (case hc => simp [h1, h2]))
    | refine go_exit ?_ | refine next_exit ?_ | refine inb_here ?_ | refine inb_past (by decide) ?_ | refine go_ret ?_ | refine next_ret ?_ | refine inb_ret ?_))
    (apply ends_ok; (case h1 => simp; exact is_rfl); (case h2 => simp; exact is_rfl))
    simp
  rw [if_neg (by omega)]
  have hB : ∀ y ∈ l, BigP y := fun y hy => by obtain ⟨a, b, c, d⟩ := hb y hy; exact ⟨a, by omega, c, by omega⟩
  obtain ⟨z1, z2, z3, z4⟩ := hw
  have hW : BigP w := ⟨z1, by omega, z3, by omega⟩
  generalize hR : leastR l w k (posC l w) = R
  (refine gives_iff ?_; refine go_func Tryz.f21 rfl rfl (by simp [Tryz.f21]) ?_; dsimp only [codeL, Tryz.f21, scL, sopsL, guardL, dstAt, loopKey])
  (repeat (first
    | (apply is_ok; (case hw => simp [h1, h2]); (case he => simp [h1, h2]; exact is_rfl))
    | (apply op_no; (case hw => simp [h1, h2]))
    | refine op_nil ?_ | refine next_normal ?_ | refine go_seq ?_ | refine go_region ?_ | refine go_skip ?_ | refine go_block ?_ | refine inb_normal ?_
    | (apply go_yes; (case hc => simp [h1, h2])) | (apply go_no; (case hc => simp [h1, h2]))
    | refine go_exit ?_ | refine next_exit ?_ | refine inb_here ?_ | refine inb_past (by decide) ?_ | refine go_ret ?_ | refine next_ret ?_ | refine inb_ret ?_))
  refine go_count l.length (fun i => [(0, .sl (l.map exV)), (2, .int .i64 k), (4, .ptr 0 1 0 0), (8, .own 1 (posC (l.take i) w).length 0 (posC (l.take i) w).length), (25, .sl (l.map exV)), (26, .int .i64 l.length), (27, .int .i64 i)])
    (fun i => [.box (.agg [.int .i64 w.1, .int .i64 w.2]), .dat true 1 (ints (posC (l.take i) w))]) (fun _ => True) (by simp [posC]) trivial fun i hi _ => ?_
  by_cases hlt : i < l.length
  · have g1 : (i : Int) < l.length := by omega
    have g2 : l[i]? = some l[i] := List.getElem?_eq_getElem hlt
    have w1 : IntKind.i64.wrap ((i : Int) + 1) = (i : Int) + 1 := wrap_id (by omega) (by omega)
    have v1 := end_eq l[i] (hB _ (List.getElem_mem hlt))
    have hp := posC_take (w := w) hlt
    have hpl := posC_length (l.take i) w
    have hti : (l.take i).length = i := by simp; omega
    by_cases hc : 0 < l[i].2
    · rw [if_pos hc] at hp
      rw [hp]
      generalize posC (l.take i) w = S at hpl
      have r1 : (S.length + 1) * 8 ≤ room := by unfold room; omega
      have r2 : S.length + 1 ≤ room := by unfold room; omega
      (repeat (first
    | (apply is_ok; (case hw => simp [g1, g2, hlt, hc, v1, w1, r1, r2, exV]); (case he => simp [g1, g2, hlt, hc, v1, w1, r1, r2, exV]; exact is_rfl))
    | (apply op_no; (case hw => simp [g1, g2, hlt, hc, v1, w1, r1, r2, exV]))
    | refine op_nil ?_ | refine next_normal ?_ | refine go_seq ?_ | refine go_region ?_ | refine go_skip ?_ | refine go_block ?_ | refine inb_normal ?_
    | (apply go_yes; (case hc => simp [g1, g2, hlt, hc, v1, w1, r1, r2, exV])) | (apply go_no; (case hc => simp [g1, g2, hlt, hc, v1, w1, r1, r2, exV]))
    | refine go_exit ?_ | refine next_exit ?_ | refine inb_here ?_ | refine inb_past (by decide) ?_ | refine go_ret ?_ | refine next_ret ?_ | refine inb_ret ?_))
      exact ⟨hlt, by simp [exV, w1], trivial⟩
    · rw [if_neg hc] at hp
      rw [hp]
      generalize posC (l.take i) w = S at hpl
      (repeat (first
    | (apply is_ok; (case hw => simp [g1, g2, hlt, hc, v1, w1, exV]); (case he => simp [g1, g2, hlt, hc, v1, w1, exV]; exact is_rfl))
    | (apply op_no; (case hw => simp [g1, g2, hlt, hc, v1, w1, exV]))
    | refine op_nil ?_ | refine next_normal ?_ | refine go_seq ?_ | refine go_region ?_ | refine go_skip ?_ | refine go_block ?_ | refine inb_normal ?_
    | (apply go_yes; (case hc => simp [g1, g2, hlt, hc, v1, w1, exV])) | (apply go_no; (case hc => simp [g1, g2, hlt, hc, v1, w1, exV]))
    | refine go_exit ?_ | refine next_exit ?_ | refine inb_here ?_ | refine inb_past (by decide) ?_ | refine go_ret ?_ | refine next_ret ?_ | refine inb_ret ?_))
      exact ⟨hlt, by simp [exV, w1], trivial⟩
  · have : i = l.length := by omega
    subst this
    have g1 : ¬ (l.length : Int) < l.length := by omega
    rw [List.take_length]
    have hpl := posC_length l w
    have hpos : ∀ n ∈ posC l w, 0 ≤ n ∧ n ≤ 4000000 := fun n hn => by
      rcases List.mem_cons.1 hn with rfl | hn
      · exact ⟨z1, by omega⟩
      · obtain ⟨y, hy, rfl⟩ := List.mem_map.1 hn
        obtain ⟨a, b, c, d⟩ := hb y (List.mem_filter.1 hy).1
        exact ⟨by omega, by omega⟩
    unfold leastR at hR
    have hsl := sorted_length (posC l w)
    have hsp : ∀ n ∈ sorted (posC l w), 0 ≤ n ∧ n ≤ 4000000 := fun n hn => hpos n (sorted_mem.1 hn)
    have hx : sortX [.own 1 (posC l w).length 0 (posC l w).length] [.box (.agg [.int .i64 w.1, .int .i64 w.2]), .dat true 1 (ints (posC l w))] = some (.tuple [], [.box (.agg [.int .i64 w.1, .int .i64 w.2]), .dat true 1 (ints (sorted (posC l w)))]) := by
      simp only [sortX, List.getElem?_cons_succ, List.getElem?_cons_zero, intsOf_ints]
      rw [if_pos ⟨trivial, trivial, trivial, trivial, by unfold room; omega⟩]
      rfl
    generalize sorted (posC l w) = S at *
    generalize posC l w = Q at *
    (repeat (first
    | (apply is_ok; (case hw => simp [g1, hx, hsl]); (case he => simp [g1, hx, hsl]; exact is_rfl))
    | (apply op_no; (case hw => simp [g1, hx, hsl]))
    | refine op_nil ?_ | refine next_normal ?_ | refine go_seq ?_ | refine go_region ?_ | refine go_skip ?_ | refine go_block ?_ | refine inb_normal ?_
    | (apply go_yes; (case hc => simp [g1, hx, hsl])) | (apply go_no; (case hc => simp [g1, hx, hsl]))
    | refine go_exit ?_ | refine next_exit ?_ | refine inb_here ?_ | refine inb_past (by decide) ?_ | refine go_ret ?_ | refine next_ret ?_ | refine inb_ret ?_))
    refine go_count Q.length (fun i => [(0, .sl (l.map exV)), (2, .int .i64 k), (4, .ptr 0 1 0 0), (42, .own 1 Q.length 0 Q.length), (43, .int .i64 Q.length), (44, .int .i64 i)])
      (fun i => [.box (.agg [.int .i64 w.1, .int .i64 w.2]), .dat true 1 (ints S)]) (fun i => ∀ j (h : j < S.length), j < i → ¬ roomP l w k S[j]) (by simp [hsl]) (fun j _ h => absurd h (Nat.not_lt_zero j)) fun i hi hI => ?_
    by_cases hlt : i < Q.length
    · have hlS : i < S.length := by omega
      have q1 : (i : Int) < Q.length := by omega
      have q2 : S[i]? = some S[i] := List.getElem?_eq_getElem hlS
      have w1 : IntKind.i64.wrap ((i : Int) + 1) = (i : Int) + 1 := wrap_id (by omega) (by omega)
      have hn := hsp S[i] (List.getElem_mem hlS)
      have hxB : BigP (S[i], k) := ⟨hn.1, hn.2, by omega, by omega⟩
      have v2 := within_eq (S[i], k) w ⟨hn.1, hn.2, by omega, by omega⟩ hW
      have v3 := cont_eq l (by omega) hB (S[i], k) w S hxB
      have next : ¬ roomP l w k S[i] → ∀ j (h : j < S.length), j < i + 1 → ¬ roomP l w k S[j] := fun hno j h hj => by
        rcases Nat.lt_or_ge j i with h1 | h1
        · exact hI j h h1
        · have : j = i := by omega
          subst this
          exact hno
      by_cases c1 : w.1 ≤ S[i]
      · by_cases c2 : S[i] + k ≤ w.1 + w.2
        · rw [decide_eq_true (show w.1 ≤ S[i] ∧ S[i] + k ≤ w.1 + w.2 from ⟨c1, c2⟩)] at v2
          by_cases c3 : ∃ y ∈ l, meetP (S[i], k) y
          · rw [decide_eq_true c3] at v3
            have hno : ¬ roomP l w k S[i] := fun h => by obtain ⟨y, hy, hm⟩ := c3; exact h.1 y hy hm
            simp only at v2 v3
            (repeat (first
    | (apply is_ok; (case hw => simp [q1, q2, hlt, hlS, hsl, c1, v2, v3, w1]); (case he => simp [q1, q2, hlt, hlS, hsl, c1, v2, v3, w1]; exact is_rfl))
    | (apply op_no; (case hw => simp [q1, q2, hlt, hlS, hsl, c1, v2, v3, w1]))
    | refine op_nil ?_ | refine next_normal ?_ | refine go_seq ?_ | refine go_region ?_ | refine go_skip ?_ | refine go_block ?_ | refine inb_normal ?_
    | (apply go_yes; (case hc => simp [q1, q2, hlt, hlS, hsl, c1, v2, v3, w1])) | (apply go_no; (case hc => simp [q1, q2, hlt, hlS, hsl, c1, v2, v3, w1]))
    | refine go_exit ?_ | refine next_exit ?_ | refine inb_here ?_ | refine inb_past (by decide) ?_ | refine go_ret ?_ | refine next_ret ?_ | refine inb_ret ?_))
            exact ⟨hlt, by simp [w1, hsl], next hno⟩
          · rw [decide_eq_false c3] at v3
            have hyes : roomP l w k S[i] := ⟨fun y hy hm => c3 ⟨y, hy, hm⟩, c1, c2⟩
            have hf : S.find? (fun n => decide (roomP l w k n)) = some S[i] := by
              rw [List.find?_eq_some_iff_getElem]
              exact ⟨by simpa using hyes, i, hlS, rfl, fun j hj => by simpa using hI j (by omega) hj⟩
            rw [hf] at hR
            subst hR
            simp only at v2 v3
            (repeat (first
    | (apply is_ok; (case hw => simp [q1, q2, hlt, hlS, hsl, c1, v2, v3, w1]); (case he => simp [q1, q2, hlt, hlS, hsl, c1, v2, v3, w1]; exact is_rfl))
    | (apply op_no; (case hw => simp [q1, q2, hlt, hlS, hsl, c1, v2, v3, w1]))
    | refine op_nil ?_ | refine next_normal ?_ | refine go_seq ?_ | refine go_region ?_ | refine go_skip ?_ | refine go_block ?_ | refine inb_normal ?_
    | (apply go_yes; (case hc => simp [q1, q2, hlt, hlS, hsl, c1, v2, v3, w1])) | (apply go_no; (case hc => simp [q1, q2, hlt, hlS, hsl, c1, v2, v3, w1]))
    | refine go_exit ?_ | refine next_exit ?_ | refine inb_here ?_ | refine inb_past (by decide) ?_ | refine go_ret ?_ | refine next_ret ?_ | refine inb_ret ?_))
            (apply ends_ok; (case h1 => simp; exact is_rfl); (case h2 => simp; exact is_rfl))
            simp
        · rw [decide_eq_false (show ¬ (w.1 ≤ S[i] ∧ S[i] + k ≤ w.1 + w.2) from fun h => c2 h.2)] at v2
          have hno : ¬ roomP l w k S[i] := fun h => c2 h.2.2
          simp only at v2
          (repeat (first
    | (apply is_ok; (case hw => simp [q1, q2, hlt, hlS, hsl, c1, v2, w1]); (case he => simp [q1, q2, hlt, hlS, hsl, c1, v2, w1]; exact is_rfl))
    | (apply op_no; (case hw => simp [q1, q2, hlt, hlS, hsl, c1, v2, w1]))
    | refine op_nil ?_ | refine next_normal ?_ | refine go_seq ?_ | refine go_region ?_ | refine go_skip ?_ | refine go_block ?_ | refine inb_normal ?_
    | (apply go_yes; (case hc => simp [q1, q2, hlt, hlS, hsl, c1, v2, w1])) | (apply go_no; (case hc => simp [q1, q2, hlt, hlS, hsl, c1, v2, w1]))
    | refine go_exit ?_ | refine next_exit ?_ | refine inb_here ?_ | refine inb_past (by decide) ?_ | refine go_ret ?_ | refine next_ret ?_ | refine inb_ret ?_))
          exact ⟨hlt, by simp [w1, hsl], next hno⟩
      · have hno : ¬ roomP l w k S[i] := fun h => c1 h.2.1
        (repeat (first
    | (apply is_ok; (case hw => simp [q1, q2, hlt, hlS, hsl, c1, w1]); (case he => simp [q1, q2, hlt, hlS, hsl, c1, w1]; exact is_rfl))
    | (apply op_no; (case hw => simp [q1, q2, hlt, hlS, hsl, c1, w1]))
    | refine op_nil ?_ | refine next_normal ?_ | refine go_seq ?_ | refine go_region ?_ | refine go_skip ?_ | refine go_block ?_ | refine inb_normal ?_
    | (apply go_yes; (case hc => simp [q1, q2, hlt, hlS, hsl, c1, w1])) | (apply go_no; (case hc => simp [q1, q2, hlt, hlS, hsl, c1, w1]))
    | refine go_exit ?_ | refine next_exit ?_ | refine inb_here ?_ | refine inb_past (by decide) ?_ | refine go_ret ?_ | refine next_ret ?_ | refine inb_ret ?_))
        exact ⟨hlt, by simp [w1, hsl], next hno⟩
    · have : i = Q.length := by omega
      subst this
      have q1 : ¬ (Q.length : Int) < Q.length := by omega
      have hf : S.find? (fun n => decide (roomP l w k n)) = none := by
        rw [List.find?_eq_none]
        intro n hn
        obtain ⟨j, hj, rfl⟩ := List.mem_iff_getElem.1 hn
        simpa using hI j hj (by omega)
      rw [hf] at hR
      subst hR
      (repeat (first
    | (apply is_ok; (case hw => simp [q1]); (case he => simp [q1]; exact is_rfl))
    | (apply op_no; (case hw => simp [q1]))
    | refine op_nil ?_ | refine next_normal ?_ | refine go_seq ?_ | refine go_region ?_ | refine go_skip ?_ | refine go_block ?_ | refine inb_normal ?_
    | (apply go_yes; (case hc => simp [q1])) | (apply go_no; (case hc => simp [q1]))
    | refine go_exit ?_ | refine next_exit ?_ | refine inb_here ?_ | refine inb_past (by decide) ?_ | refine go_ret ?_ | refine next_ret ?_ | refine inb_ret ?_))
      (apply ends_ok; (case h1 => simp; exact is_rfl); (case h2 => simp; exact is_rfl))
      simp
end Go.Abs

namespace Go.Abs
open Go.Proofs
set_option maxRecDepth 100000
set_option linter.unusedSimpArgs false
set_option linter.unusedVariables false

theorem alive45_eq : bodyW DC 11 [] [] = some (.bool true, []) := bodyW_iff.2 ⟨3000, by kernel_rfl⟩
end Go.Abs

