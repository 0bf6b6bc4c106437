/- Proved here: what functions of the program compute, over the evaluator. No condition but those that each theorem states. -/
import Derived.Test.YtefdoccoajhefaaDoorG6
namespace Go.Abs
open Go.Proofs
set_option maxRecDepth 100000
set_option linter.unusedSimpArgs false
set_option linter.unusedVariables false

/-- The inode of a name. -/
def idxE (s : List UInt8) : List (List UInt8 × Int) → Option Nat
  | [] => none
  | p :: l => if p.1 = s then some 0 else (idxE s l).map (· + 1)
theorem idxE_lt {s : List UInt8} : ∀ {l : List (List UInt8 × Int)} {i : Nat}, idxE s l = some i → ∃ h : i < l.length, l[i].1 = s
  | [], i, h => by cases h
  | p :: l, i, h => by
    rw [idxE] at h
    split at h
    · rename_i hp
      cases h
      exact ⟨by simp, hp⟩
    · rw [Option.map_eq_some_iff] at h
      obtain ⟨j, hj, rfl⟩ := h
      obtain ⟨h1, h2⟩ := idxE_lt hj
      exact ⟨by simpa using h1, h2⟩
theorem idxE_none {s : List UInt8} : ∀ {l : List (List UInt8 × Int)}, idxE s l = none ↔ ∀ p ∈ l, p.1 ≠ s
  | [] => by simp [idxE]
  | p :: l => by
    rw [idxE]
    by_cases hp : p.1 = s
    · simp [hp]
    · simp [hp, idxE_none (l := l)]
theorem idxE_at {s : List UInt8} : ∀ {l : List (List UInt8 × Int)} {i : Nat} (h : i < l.length), l[i].1 = s → (∀ p ∈ l.take i, p.1 ≠ s) → idxE s l = some i
  | p :: l, 0, h, h1, _ => by rw [idxE, if_pos (show p.1 = s from h1)]
  | p :: l, i + 1, h, h1, h2 => by
    rw [idxE, if_neg (h2 p (by simp)), idxE_at (l := l) (i := i) (by simpa using h) h1 (fun q hq => h2 q (by simp [hq]))]
    rfl
theorem take_ne {l : List (List UInt8 × Int)} {i : Nat} {s : List UInt8} (hlt : i < l.length) (hI : ∀ p ∈ l.take i, p.1 ≠ s) (h : l[i].1 ≠ s) : ∀ p ∈ l.take (i + 1), p.1 ≠ s := fun p hp => by
  rw [List.take_succ_eq_append_getElem hlt] at hp
  rcases List.mem_append.1 hp with h1 | h1
  · exact hI p h1
  · simp at h1; subst h1; exact h

theorem index_eq (l : List (List UInt8 × Int)) (hl : l.length ≤ maxLen) (s : List UInt8) : bodyW DC 37 [.sl (l.map entV), .str s] [] = some (.int .i64 (match idxE s l with | some i => (i : Int) | none => -1), []) := by
  (refine gives_iff ?_; refine go_func Tryd.f37 rfl rfl (by simp [Tryd.f37]) ?_; dsimp only [codeL, Tryd.f37, scL, sopsL, guardL, dstAt, loopKey])
  (repeat (first
    | (apply is_ok; (case hw => simp); (case he => simp; exact is_rfl))
    | (apply op_no; (case hw => simp))
    | refine op_nil ?_ | refine next_normal ?_ | refine go_seq ?_ | refine go_region ?_ | refine go_skip ?_ | refine go_block ?_ | refine inb_normal ?_
    | (apply go_yes; (case hc => simp)) | (apply go_no; (case hc => simp))
    | refine go_exit ?_ | refine next_exit ?_ | refine inb_here ?_ | refine inb_past (by decide) ?_ | refine go_ret ?_ | refine next_ret ?_ | refine inb_ret ?_))
  refine go_count l.length (fun i => [(0, .sl (l.map entV)), (1, .str s), (5, .int .i64 i)]) (fun _ => []) (fun i => ∀ p ∈ l.take i, p.1 ≠ s) (by simp) (by simp) fun i hi hI => ?_
  by_cases hlt : i < l.length
  · have g1 : (i : Int) < l.length := by omega
    have g2 : l[i]? = some l[i] := List.getElem?_eq_getElem hlt
    have w1 : IntKind.i64.wrap ((i : Int) + 1) = (i : Int) + 1 := wrap_id (by omega) (by unfold maxLen at hl; omega)
    by_cases hc : l[i].1 = s
    · rw [idxE_at hlt hc hI]
      (repeat (first
    | (apply is_ok; (case hw => simp [g1, g2, hlt, hc, entV]); (case he => simp [g1, g2, hlt, hc, entV]; exact is_rfl))
    | (apply op_no; (case hw => simp [g1, g2, hlt, hc, entV]))
    | refine op_nil ?_ | refine next_normal ?_ | refine go_seq ?_ | refine go_region ?_ | refine go_skip ?_ | refine go_block ?_ | refine inb_normal ?_
    | (apply go_yes; (case hc => simp [g1, g2, hlt, hc, entV])) | (apply go_no; (case hc => simp [g1, g2, hlt, hc, entV]))
    | refine go_exit ?_ | refine next_exit ?_ | refine inb_here ?_ | refine inb_past (by decide) ?_ | refine go_ret ?_ | refine next_ret ?_ | refine inb_ret ?_))
      (apply ends_ok; (case h1 => simp; exact is_rfl); (case h2 => simp; exact is_rfl))
      exact ⟨rfl, rfl⟩
    · (repeat (first
    | (apply is_ok; (case hw => simp [g1, g2, hlt, hc, w1, entV]); (case he => simp [g1, g2, hlt, hc, w1, entV]; exact is_rfl))
    | (apply op_no; (case hw => simp [g1, g2, hlt, hc, w1, entV]))
    | refine op_nil ?_ | refine next_normal ?_ | refine go_seq ?_ | refine go_region ?_ | refine go_skip ?_ | refine go_block ?_ | refine inb_normal ?_
    | (apply go_yes; (case hc => simp [g1, g2, hlt, hc, w1, entV])) | (apply go_no; (case hc => simp [g1, g2, hlt, hc, w1, entV]))
    | refine go_exit ?_ | refine next_exit ?_ | refine inb_here ?_ | refine inb_past (by decide) ?_ | refine go_ret ?_ | refine next_ret ?_ | refine inb_ret ?_))
      exact ⟨hlt, by simp [w1, entV], take_ne hlt hI hc⟩
  · have g1 : ¬ (i : Int) < l.length := by omega
    rw [List.take_of_length_le (by omega)] at hI
    rw [idxE_none.2 hI]
    (repeat (first
    | (apply is_ok; (case hw => simp [g1]); (case he => simp [g1]; exact is_rfl))
    | (apply op_no; (case hw => simp [g1]))
    | refine op_nil ?_ | refine next_normal ?_ | refine go_seq ?_ | refine go_region ?_ | refine go_skip ?_ | refine go_block ?_ | refine inb_normal ?_
    | (apply go_yes; (case hc => simp [g1])) | (apply go_no; (case hc => simp [g1]))
    | refine go_exit ?_ | refine next_exit ?_ | refine inb_here ?_ | refine inb_past (by decide) ?_ | refine go_ret ?_ | refine next_ret ?_ | refine inb_ret ?_))
    (apply ends_ok; (case h1 => simp; exact is_rfl); (case h2 => simp; exact is_rfl))
    exact ⟨rfl, rfl⟩

/-- What Find returns. -/
def findV (l : List (List UInt8 × Int)) (s : List UInt8) : V := match idxE s l with
  | some i => .tuple [.int .i64 (l.getD i ([], 0)).2, .bool true]
  | none => .tuple [.int .i64 0, .bool false]

theorem FindR_eq (l : List (List UInt8 × Int)) (hl : l.length ≤ maxLen) (s : List UInt8) : bodyW DC 20 [.sl (l.map entV), .str s] [] = some (findV l s, []) := by
  have hx := index_eq l hl s
  unfold findV
  cases hi : idxE s l with
  | none =>
    rw [hi] at hx
    simp only at hx
    (refine gives_iff ?_; refine go_func Tryd.f20 rfl rfl (by simp [Tryd.f20]) ?_; dsimp only [codeL, Tryd.f20, scL, sopsL, guardL, dstAt, loopKey])
    (repeat (first
    | (apply is_ok; (case hw => simp [hx]); (case he => simp [hx]; exact is_rfl))
    | (apply op_no; (case hw => simp [hx]))
    | refine op_nil ?_ | refine next_normal ?_ | refine go_seq ?_ | refine go_region ?_ | refine go_skip ?_ | refine go_block ?_ | refine inb_normal ?_
    | (apply go_yes; (case hc => simp [hx])) | (apply go_no; (case hc => simp [hx]))
    | refine go_exit ?_ | refine next_exit ?_ | refine inb_here ?_ | refine inb_past (by decide) ?_ | refine go_ret ?_ | refine next_ret ?_ | refine inb_ret ?_))
    (apply ends_ok; (case h1 => simp; exact is_rfl); (case h2 => simp; exact is_rfl))
    exact ⟨rfl, rfl⟩
  | some i =>
    rw [hi] at hx
    simp only at hx
    obtain ⟨hlt, _⟩ := idxE_lt hi
    have g1 : (0 : Int) ≤ i := by omega
    have g2 : l[i]? = some l[i] := List.getElem?_eq_getElem hlt
    have g3 : (i : Int) < l.length := by omega
    (refine gives_iff ?_; refine go_func Tryd.f20 rfl rfl (by simp [Tryd.f20]) ?_; dsimp only [codeL, Tryd.f20, scL, sopsL, guardL, dstAt, loopKey])
    (repeat (first
    | (apply is_ok; (case hw => simp [hx, g1, g2, g3, hlt, entV]); (case he => simp [hx, g1, g2, g3, hlt, entV]; exact is_rfl))
    | (apply op_no; (case hw => simp [hx, g1, g2, g3, hlt, entV]))
    | refine op_nil ?_ | refine next_normal ?_ | refine go_seq ?_ | refine go_region ?_ | refine go_skip ?_ | refine go_block ?_ | refine inb_normal ?_
    | (apply go_yes; (case hc => simp [hx, g1, g2, g3, hlt, entV])) | (apply go_no; (case hc => simp [hx, g1, g2, g3, hlt, entV]))
    | refine go_exit ?_ | refine next_exit ?_ | refine inb_here ?_ | refine inb_past (by decide) ?_ | refine go_ret ?_ | refine next_ret ?_ | refine inb_ret ?_))
    (apply ends_ok; (case h1 => simp; exact is_rfl); (case h2 => simp; exact is_rfl))
    simp [g2, hlt]

theorem Find_eq (l : List (List UInt8 × Int)) (hl : l.length ≤ maxLen) (s : List UInt8) : bodyW DC 19 [.sl (l.map entV), .str s] [] = some (findV l s, []) := by
  unfold findV
  (refine gives_iff ?_; refine go_func Tryd.f19 rfl rfl (by simp [Tryd.f19]) ?_; dsimp only [codeL, Tryd.f19, scL, sopsL, guardL, dstAt, loopKey])
  (repeat (first
    | (apply is_ok; (case hw => simp); (case he => simp; exact is_rfl))
    | (apply op_no; (case hw => simp))
    | refine op_nil ?_ | refine next_normal ?_ | refine go_seq ?_ | refine go_region ?_ | refine go_skip ?_ | refine go_block ?_ | refine inb_normal ?_
    | (apply go_yes; (case hc => simp)) | (apply go_no; (case hc => simp))
    | refine go_exit ?_ | refine next_exit ?_ | refine inb_here ?_ | refine inb_past (by decide) ?_ | refine go_ret ?_ | refine next_ret ?_ | refine inb_ret ?_))
  refine go_count l.length (fun i => [(1, .str s), (8, .sl (l.map entV)), (9, .int .i64 l.length), (10, .int .i64 i)]) (fun _ => []) (fun i => ∀ p ∈ l.take i, p.1 ≠ s) (by simp) (by simp) fun i hi hI => ?_
  by_cases hlt : i < l.length
  · have g1 : (i : Int) < l.length := by omega
    have g2 : l[i]? = some l[i] := List.getElem?_eq_getElem hlt
    have w1 : IntKind.i64.wrap ((i : Int) + 1) = (i : Int) + 1 := wrap_id (by omega) (by unfold maxLen at hl; omega)
    by_cases hc : l[i].1 = s
    · rw [idxE_at hlt hc hI]
      (repeat (first
    | (apply is_ok; (case hw => simp [g1, g2, hlt, hc, entV]); (case he => simp [g1, g2, hlt, hc, entV]; exact is_rfl))
    | (apply op_no; (case hw => simp [g1, g2, hlt, hc, entV]))
    | refine op_nil ?_ | refine next_normal ?_ | refine go_seq ?_ | refine go_region ?_ | refine go_skip ?_ | refine go_block ?_ | refine inb_normal ?_
    | (apply go_yes; (case hc => simp [g1, g2, hlt, hc, entV])) | (apply go_no; (case hc => simp [g1, g2, hlt, hc, entV]))
    | refine go_exit ?_ | refine next_exit ?_ | refine inb_here ?_ | refine inb_past (by decide) ?_ | refine go_ret ?_ | refine next_ret ?_ | refine inb_ret ?_))
      (apply ends_ok; (case h1 => simp; exact is_rfl); (case h2 => simp; exact is_rfl))
      simp [g2, hlt]
    · (repeat (first
    | (apply is_ok; (case hw => simp [g1, g2, hlt, hc, w1, entV]); (case he => simp [g1, g2, hlt, hc, w1, entV]; exact is_rfl))
    | (apply op_no; (case hw => simp [g1, g2, hlt, hc, w1, entV]))
    | refine op_nil ?_ | refine next_normal ?_ | refine go_seq ?_ | refine go_region ?_ | refine go_skip ?_ | refine go_block ?_ | refine inb_normal ?_
    | (apply go_yes; (case hc => simp [g1, g2, hlt, hc, w1, entV])) | (apply go_no; (case hc => simp [g1, g2, hlt, hc, w1, entV]))
    | refine go_exit ?_ | refine next_exit ?_ | refine inb_here ?_ | refine inb_past (by decide) ?_ | refine go_ret ?_ | refine next_ret ?_ | refine inb_ret ?_))
      exact ⟨hlt, by simp [w1, entV], take_ne hlt hI hc⟩
  · have g1 : ¬ (i : Int) < l.length := by omega
    rw [List.take_of_length_le (by omega)] at hI
    rw [idxE_none.2 hI]
    (repeat (first
    | (apply is_ok; (case hw => simp [g1]); (case he => simp [g1]; exact is_rfl))
    | (apply op_no; (case hw => simp [g1]))
    | refine op_nil ?_ | refine next_normal ?_ | refine go_seq ?_ | refine go_region ?_ | refine go_skip ?_ | refine go_block ?_ | refine inb_normal ?_
    | (apply go_yes; (case hc => simp [g1])) | (apply go_no; (case hc => simp [g1]))
    | refine go_exit ?_ | refine next_exit ?_ | refine inb_here ?_ | refine inb_past (by decide) ?_ | refine go_ret ?_ | refine next_ret ?_ | refine inb_ret ?_))
    (apply ends_ok; (case h1 => simp; exact is_rfl); (case h2 => simp; exact is_rfl))
    exact ⟨rfl, rfl⟩

theorem eqL_ent (i j : Int) (s u : List UInt8) : eqL Tryd.prog 10000 42 [.str s, .int .i64 i] [.str u, .int .i64 j] = some (decide (s = u) && decide (i = j)) := by
  have s1 : Tryd.prog.stoodInHeld 42 = false := by kernel_rfl
  have o1 : okT Tryd.prog 3 = true := by kernel_rfl
  have o2 : okT Tryd.prog 9 = true := by kernel_rfl
  have z1 : sizeL Tryd.prog 3 = 1 := by kernel_rfl
  have z2 : sizeL Tryd.prog 9 = 1 := by kernel_rfl
  rw [show (10000 : Nat) = 9997 + 3 from rfl]
  generalize 9997 = n
  simp [eqL, eqFs, eqNs, s1, o1, o2, z1, z2, Tryd.underlying42, Tryd.underlying9, Tryd.underlying3]
  rw [Bool.eq_iff_iff]
  simp
theorem ent_neq (s : List UInt8) (i : Int) : binV Tryd.prog .neq 42 (.agg [.str s, .int .i64 i]) (.agg [.str s, .int .i64 i]) = some (.bool false) := by
  have h := (binV_agg (P := Tryd.prog) (t := 42) (d := 10000) rfl (by kernel_rfl) (by kernel_rfl) rfl rfl (eqL_ent i i s s)).2
  simp only [decide_true, Bool.and_self, Bool.not_true] at h
  exact h

theorem SameE_refl (l : List (List UInt8 × Int)) (hl : l.length ≤ maxLen) : bodyW DC 18 [.sl (l.map entV), .sl (l.map entV)] [] = some (.bool true, []) := by
  (refine gives_iff ?_; refine go_func Tryd.f18 rfl rfl (by simp [Tryd.f18]) ?_; dsimp only [codeL, Tryd.f18, scL, sopsL, guardL, dstAt, loopKey])
  (repeat (first
    | (apply is_ok; (case hw => simp); (case he => simp; exact is_rfl))
    | (apply op_no; (case hw => simp))
    | refine op_nil ?_ | refine next_normal ?_ | refine go_seq ?_ | refine go_region ?_ | refine go_skip ?_ | refine go_block ?_ | refine inb_normal ?_
    | (apply go_yes; (case hc => simp)) | (apply go_no; (case hc => simp))
    | refine go_exit ?_ | refine next_exit ?_ | refine inb_here ?_ | refine inb_past (by decide) ?_ | refine go_ret ?_ | refine next_ret ?_ | refine inb_ret ?_))
  refine go_count l.length (fun i => [(0, .sl (l.map entV)), (1, .sl (l.map entV)), (5, .int .i64 i)]) (fun _ => []) (fun i => True) (by simp) (by simp) fun i hi hI => ?_
  by_cases hlt : i < l.length
  · have g1 : (i : Int) < l.length := by omega
    have g2 : l[i]? = some l[i] := List.getElem?_eq_getElem hlt
    have w1 : IntKind.i64.wrap ((i : Int) + 1) = (i : Int) + 1 := wrap_id (by omega) (by unfold maxLen at hl; omega)
    have e1 := ent_neq l[i].1 l[i].2
    (repeat (first
    | (apply is_ok; (case hw => simp [-binV, e1, g1, g2, hlt, w1, entV]); (case he => simp [-binV, e1, g1, g2, hlt, w1, entV]; exact is_rfl))
    | (apply op_no; (case hw => simp [-binV, e1, g1, g2, hlt, w1, entV]))
    | refine op_nil ?_ | refine next_normal ?_ | refine go_seq ?_ | refine go_region ?_ | refine go_skip ?_ | refine go_block ?_ | refine inb_normal ?_
    | (apply go_yes; (case hc => simp [-binV, e1, g1, g2, hlt, w1, entV])) | (apply go_no; (case hc => simp [-binV, e1, g1, g2, hlt, w1, entV]))
    | refine go_exit ?_ | refine next_exit ?_ | refine inb_here ?_ | refine inb_past (by decide) ?_ | refine go_ret ?_ | refine next_ret ?_ | refine inb_ret ?_))
    exact ⟨hlt, by simp [w1, entV], trivial⟩
  · have g1 : ¬ (i : Int) < l.length := by omega
    (repeat (first
    | (apply is_ok; (case hw => simp [g1]); (case he => simp [g1]; exact is_rfl))
    | (apply op_no; (case hw => simp [g1]))
    | refine op_nil ?_ | refine next_normal ?_ | refine go_seq ?_ | refine go_region ?_ | refine go_skip ?_ | refine go_block ?_ | refine inb_normal ?_
    | (apply go_yes; (case hc => simp [g1])) | (apply go_no; (case hc => simp [g1]))
    | refine go_exit ?_ | refine next_exit ?_ | refine inb_here ?_ | refine inb_past (by decide) ?_ | refine go_ret ?_ | refine next_ret ?_ | refine inb_ret ?_))
    (apply ends_ok; (case h1 => simp; exact is_rfl); (case h2 => simp; exact is_rfl))
    exact ⟨rfl, rfl⟩

/-- Is a number that of an inode? -/
def inoOk (n : Int) : Bool := decide (1 ≤ n) && decide (n < 32)
theorem right_eq (n : Int) : bodyW DC 38 [.int .i64 n] [] = some (.bool (inoOk n), []) := by
  unfold inoOk
  by_cases h1 : 1 ≤ n <;>
  · (refine gives_iff ?_; refine go_func Tryd.f38 rfl rfl (by simp [Tryd.f38]) ?_; dsimp only [codeL, Tryd.f38, scL, sopsL, guardL, dstAt, loopKey])
    (repeat (first
    | (apply is_ok; (case hw => simp [h1]); (case he => simp [h1]; exact is_rfl))
    | (apply op_no; (case hw => simp [h1]))
    | refine op_nil ?_ | refine next_normal ?_ | refine go_seq ?_ | refine go_region ?_ | refine go_skip ?_ | refine go_block ?_ | refine inb_normal ?_
    | (apply go_yes; (case hc => simp [h1])) | (apply go_no; (case hc => simp [h1]))
    | refine go_exit ?_ | refine next_exit ?_ | refine inb_here ?_ | refine inb_past (by decide) ?_ | refine go_ret ?_ | refine next_ret ?_ | refine inb_ret ?_))
    (apply ends_ok; (case h1 => simp; exact is_rfl); (case h2 => simp; exact is_rfl))
    simp [h1]
def entOk (p : List UInt8 × Int) : Bool := nameOk p.1 && inoOk p.2
theorem entry_eq (p : List UInt8 × Int) : bodyW DC 50 [entV p] [] = some (.bool (entOk p), []) := by
  have h := refValid_eq p.1
  unfold entOk inoOk
  generalize nameOk p.1 = b at h
  cases b <;> by_cases h1 : 1 ≤ p.2 <;>
  · (refine gives_iff ?_; refine go_func Tryd.f50 rfl rfl (by simp [Tryd.f50]) ?_; dsimp only [codeL, Tryd.f50, scL, sopsL, guardL, dstAt, loopKey])
    (repeat (first
    | (apply is_ok; (case hw => simp [h, h1, entV]); (case he => simp [h, h1, entV]; exact is_rfl))
    | (apply op_no; (case hw => simp [h, h1, entV]))
    | refine op_nil ?_ | refine next_normal ?_ | refine go_seq ?_ | refine go_region ?_ | refine go_skip ?_ | refine go_block ?_ | refine inb_normal ?_
    | (apply go_yes; (case hc => simp [h, h1, entV])) | (apply go_no; (case hc => simp [h, h1, entV]))
    | refine go_exit ?_ | refine next_exit ?_ | refine inb_here ?_ | refine inb_past (by decide) ?_ | refine go_ret ?_ | refine next_ret ?_ | refine inb_ret ?_))
    (apply ends_ok; (case h1 => simp; exact is_rfl); (case h2 => simp; exact is_rfl))
    simp [h1]
end Go.Abs
