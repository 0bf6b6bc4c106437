/- Proved here: what functions of the program compute, over the evaluator. No condition but those that each theorem states. -/
import Derived.Test.YtefdoccoajhefaaDoorG9
namespace Go.Abs
open Go.Proofs
set_option maxRecDepth 100000
set_option linter.unusedSimpArgs false
set_option linter.unusedVariables false

/-- The first error of Add, and its list. -/
def addE (l : List (List UInt8 × Int)) (s : List UInt8) (n : Int) : Int := if nameOk s = false then 4 else if inoOk n = false then 2 else if (idxE s l).isSome then 14 else if 64 ≤ l.length then 12 else 0
def addR (l : List (List UInt8 × Int)) (s : List UInt8) (n : Int) (k : Nat) : V × Heap := if addE l s n = 0 then (.tuple [.own 0 (l.length + 1) 0 (l.length + 1), .int .i64 0], [.dat true 2 ((l.take k ++ (s, n) :: l.drop k).map entV)])
  else (.tuple [.own 0 0 0 0, .int .i64 (addE l s n)], [.dat true 2 []])

theorem ent_cellsL (l : List (List UInt8 × Int)) : ((l.map entV).all fun e => e.cells.length == 2) = true := by
  rw [List.all_eq_true]
  intro x hx
  obtain ⟨p, _, rfl⟩ := List.mem_map.1 hx
  rfl

theorem all_ent {L : List V} (l : List (List UInt8 × Int)) (h : ∀ x ∈ L, x ∈ l.map entV) : (L.all fun e => decide (e.cells.length = 2)) = true := by
  rw [List.all_eq_true]
  intro x hx
  obtain ⟨p, _, rfl⟩ := List.mem_map.1 (h x hx)
  rfl
@[simp] theorem all_ent0 (l : List (List UInt8 × Int)) : ((l.map entV).all fun e => decide (e.cells.length = 2)) = true := all_ent l fun x h => h
@[simp] theorem all_entD (l : List (List UInt8 × Int)) (k : Nat) : (((l.map entV).drop k).all fun e => decide (e.cells.length = 2)) = true := all_ent l fun x h => List.mem_of_mem_drop h
@[simp] theorem all_entT (l : List (List UInt8 × Int)) (k : Nat) : (((l.map entV).take k).all fun e => decide (e.cells.length = 2)) = true := all_ent l fun x h => List.mem_of_mem_take h
@[simp] theorem all_entTD (l : List (List UInt8 × Int)) (k m : Nat) : ((((l.map entV).take m).drop k).all fun e => decide (e.cells.length = 2)) = true := all_ent l fun x h => List.mem_of_mem_take (List.mem_of_mem_drop h)
@[simp] theorem all_entDT (l : List (List UInt8 × Int)) (k m : Nat) : ((((l.map entV).drop k).take m).all fun e => decide (e.cells.length = 2)) = true := all_ent l fun x h => List.mem_of_mem_drop (List.mem_of_mem_take h)

theorem addR_err {l : List (List UInt8 × Int)} {s : List UInt8} {n : Int} {k : Nat} {e : Int} (h : addE l s n = e) (h0 : e ≠ 0) : addR l s n k = (.tuple [.own 0 0 0 0, .int .i64 e], [.dat true 2 []]) := by
  unfold addR
  rw [h, if_neg h0]
theorem addR_ok {l : List (List UInt8 × Int)} {s : List UInt8} {n : Int} {k : Nat} (h : addE l s n = 0) : addR l s n k = (.tuple [.own 0 (l.length + 1) 0 (l.length + 1), .int .i64 0], [.dat true 2 ((l.take k ++ (s, n) :: l.drop k).map entV)]) := by
  unfold addR
  rw [h, if_pos rfl]

theorem Add_eq (l : List (List UInt8 × Int)) (hl : l.length ≤ 1000000) (hs : SortE l) (s : List UInt8) (n : Int) (k : Nat) (hk : PosE l s k) :
    bodyW DC 22 [.sl (l.map entV), .str s, .int .i64 n] [] = some (addR l s n k) := by
  have v1 := dirValid_eq s
  cases h1 : nameOk s with
  | false =>
    rw [h1] at v1
    rw [addR_err (e := 4) (by simp [addE, h1]) (by decide)]
    (refine gives_iff ?_; refine go_func Tryd.f22 rfl rfl (by simp [Tryd.f22]) ?_; dsimp only [codeL, Tryd.f22, scL, sopsL, guardL, dstAt, loopKey])
    (repeat (first
    | (apply is_ok; (case hw => simp [v1]); (case he => simp [v1]; exact is_rfl))
    | (apply op_no; (case hw => simp [v1]))
    | refine op_nil ?_ | refine next_normal ?_ | refine go_seq ?_ | refine go_region ?_ | refine go_skip ?_ | refine go_block ?_ | refine inb_normal ?_
    | (apply go_yes; (case hc => simp [v1])) | (apply go_no; (case hc => simp [v1]))
    | refine go_exit ?_ | refine next_exit ?_ | refine inb_here ?_ | refine inb_past (by decide) ?_ | refine go_ret ?_ | refine next_ret ?_ | refine inb_ret ?_))
    (apply ends_ok; (case h1 => simp; exact is_rfl); (case h2 => simp; exact is_rfl))
    simp
  | true =>
  rw [h1] at v1
  have v2 := right_eq n
  cases h2 : inoOk n with
  | false =>
    rw [h2] at v2
    rw [addR_err (e := 2) (by simp [addE, h1, h2]) (by decide)]
    (refine gives_iff ?_; refine go_func Tryd.f22 rfl rfl (by simp [Tryd.f22]) ?_; dsimp only [codeL, Tryd.f22, scL, sopsL, guardL, dstAt, loopKey])
    (repeat (first
    | (apply is_ok; (case hw => simp [v1, v2]); (case he => simp [v1, v2]; exact is_rfl))
    | (apply op_no; (case hw => simp [v1, v2]))
    | refine op_nil ?_ | refine next_normal ?_ | refine go_seq ?_ | refine go_region ?_ | refine go_skip ?_ | refine go_block ?_ | refine inb_normal ?_
    | (apply go_yes; (case hc => simp [v1, v2])) | (apply go_no; (case hc => simp [v1, v2]))
    | refine go_exit ?_ | refine next_exit ?_ | refine inb_here ?_ | refine inb_past (by decide) ?_ | refine go_ret ?_ | refine next_ret ?_ | refine inb_ret ?_))
    (apply ends_ok; (case h1 => simp; exact is_rfl); (case h2 => simp; exact is_rfl))
    simp
  | true =>
  rw [h2] at v2
  obtain ⟨k', hk', v3⟩ := place_eq l hl hs s
  have := hk'.uniq hk
  subst this
  have hx := pos_idx hs hk
  by_cases h3 : l[k']?.map (·.1) = some s
  · rw [decide_eq_true h3] at v3
    rw [if_pos h3] at hx
    rw [addR_err (e := 14) (by simp [addE, h1, h2, hx]) (by decide)]
    (refine gives_iff ?_; refine go_func Tryd.f22 rfl rfl (by simp [Tryd.f22]) ?_; dsimp only [codeL, Tryd.f22, scL, sopsL, guardL, dstAt, loopKey])
    (repeat (first
    | (apply is_ok; (case hw => simp [v1, v2, v3]); (case he => simp [v1, v2, v3]; exact is_rfl))
    | (apply op_no; (case hw => simp [v1, v2, v3]))
    | refine op_nil ?_ | refine next_normal ?_ | refine go_seq ?_ | refine go_region ?_ | refine go_skip ?_ | refine go_block ?_ | refine inb_normal ?_
    | (apply go_yes; (case hc => simp [v1, v2, v3])) | (apply go_no; (case hc => simp [v1, v2, v3]))
    | refine go_exit ?_ | refine next_exit ?_ | refine inb_here ?_ | refine inb_past (by decide) ?_ | refine go_ret ?_ | refine next_ret ?_ | refine inb_ret ?_))
    (apply ends_ok; (case h1 => simp; exact is_rfl); (case h2 => simp; exact is_rfl))
    simp
  rw [decide_eq_false h3] at v3
  rw [if_neg h3] at hx
  by_cases h4 : (64 : Int) ≤ l.length
  · have h4' : 64 ≤ l.length := by omega
    rw [addR_err (e := 12) (by simp [addE, h1, h2, hx, h4']) (by decide)]
    (refine gives_iff ?_; refine go_func Tryd.f22 rfl rfl (by simp [Tryd.f22]) ?_; dsimp only [codeL, Tryd.f22, scL, sopsL, guardL, dstAt, loopKey])
    (repeat (first
    | (apply is_ok; (case hw => simp [v1, v2, v3, h4]); (case he => simp [v1, v2, v3, h4]; exact is_rfl))
    | (apply op_no; (case hw => simp [v1, v2, v3, h4]))
    | refine op_nil ?_ | refine next_normal ?_ | refine go_seq ?_ | refine go_region ?_ | refine go_skip ?_ | refine go_block ?_ | refine inb_normal ?_
    | (apply go_yes; (case hc => simp [v1, v2, v3, h4])) | (apply go_no; (case hc => simp [v1, v2, v3, h4]))
    | refine go_exit ?_ | refine next_exit ?_ | refine inb_here ?_ | refine inb_past (by decide) ?_ | refine go_ret ?_ | refine next_ret ?_ | refine inb_ret ?_))
    (apply ends_ok; (case h1 => simp; exact is_rfl); (case h2 => simp; exact is_rfl))
    simp
  have h4' : ¬ 64 ≤ l.length := by omega
  rw [addR_ok (by simp [addE, h1, h2, hx, h4'])]
  have hc : cloneX 2 24 [.sl (l.map entV)] = some (.own 0 l.length 0 l.length, [.dat true 2 (l.map entV)]) := by
    have e1 : l.length * 24 ≤ room := by unfold room; omega
    have e2 : l.length ≤ room := by unfold room; omega
    simp only [cloneX, List.length_map]
    rw [if_pos ⟨by decide, e1, e2, ent_cellsL l⟩]
  have hle := hk.le
  have hi : insAtX 24 [.own 1 l.length 0 l.length, .int .i64 k', .own 2 1 0 1] [.dat true 2 [], .dat true 2 (l.map entV), .dat true 2 [.agg [.str s, .int .i64 n]]] = some (.own 1 (l.length + 1) 0 (l.length + 1), [.dat true 2 [], .dat true 2 ((l.take k' ++ (s, n) :: l.drop k').map entV), .dat true 2 [.agg [.str s, .int .i64 n]]]) := by
    have e1 : (l.length + 1) * 24 ≤ room := by unfold room; omega
    have e2 : l.length + 1 ≤ room := by unfold room; omega
    simp only [insAtX, List.getElem?_cons_succ, List.getElem?_cons_zero]
    rw [if_pos ⟨trivial, trivial, trivial, trivial, by simp, by omega, by omega, by decide, e1, e2⟩]
    simp [entV]
  (refine gives_iff ?_; refine go_func Tryd.f22 rfl rfl (by simp [Tryd.f22]) ?_; dsimp only [codeL, Tryd.f22, scL, sopsL, guardL, dstAt, loopKey])
  (repeat (first
    | (apply is_ok; (case hw => simp [v1, v2, v3, h4, hc, hi]); (case he => simp [v1, v2, v3, h4, hc, hi]; exact is_rfl))
    | (apply op_no; (case hw => simp [v1, v2, v3, h4, hc, hi]))
    | refine op_nil ?_ | refine next_normal ?_ | refine go_seq ?_ | refine go_region ?_ | refine go_skip ?_ | refine go_block ?_ | refine inb_normal ?_
    | (apply go_yes; (case hc => simp [v1, v2, v3, h4, hc, hi])) | (apply go_no; (case hc => simp [v1, v2, v3, h4, hc, hi]))
    | refine go_exit ?_ | refine next_exit ?_ | refine inb_here ?_ | refine inb_past (by decide) ?_ | refine go_ret ?_ | refine next_ret ?_ | refine inb_ret ?_))
  (apply ends_ok; (case h1 => simp; exact is_rfl); (case h2 => simp; exact is_rfl))
  simp

theorem AddR_eq (l : List (List UInt8 × Int)) (hl : l.length ≤ 1000000) (hs : SortE l) (s : List UInt8) (n : Int) (k : Nat) (hk : PosE l s k) :
    bodyW DC 23 [.sl (l.map entV), .str s, .int .i64 n] [] = some (addR l s n k) := by
  have v1 := refValid_eq s
  cases h1 : nameOk s with
  | false =>
    rw [h1] at v1
    rw [addR_err (e := 4) (by simp [addE, h1]) (by decide)]
    (refine gives_iff ?_; refine go_func Tryd.f23 rfl rfl (by simp [Tryd.f23]) ?_; dsimp only [codeL, Tryd.f23, scL, sopsL, guardL, dstAt, loopKey])
    (repeat (first
    | (apply is_ok; (case hw => simp [v1]); (case he => simp [v1]; exact is_rfl))
    | (apply op_no; (case hw => simp [v1]))
    | refine op_nil ?_ | refine next_normal ?_ | refine go_seq ?_ | refine go_region ?_ | refine go_skip ?_ | refine go_block ?_ | refine inb_normal ?_
    | (apply go_yes; (case hc => simp [v1])) | (apply go_no; (case hc => simp [v1]))
    | refine go_exit ?_ | refine next_exit ?_ | refine inb_here ?_ | refine inb_past (by decide) ?_ | refine go_ret ?_ | refine next_ret ?_ | refine inb_ret ?_))
    (apply ends_ok; (case h1 => simp; exact is_rfl); (case h2 => simp; exact is_rfl))
    simp
  | true =>
  rw [h1] at v1
  by_cases h2 : n < 1
  · have h2' : inoOk n = false := by simp [inoOk]; omega
    rw [addR_err (e := 2) (by simp [addE, h1, h2']) (by decide)]
    (refine gives_iff ?_; refine go_func Tryd.f23 rfl rfl (by simp [Tryd.f23]) ?_; dsimp only [codeL, Tryd.f23, scL, sopsL, guardL, dstAt, loopKey])
    (repeat (first
    | (apply is_ok; (case hw => simp [v1, h2]); (case he => simp [v1, h2]; exact is_rfl))
    | (apply op_no; (case hw => simp [v1, h2]))
    | refine op_nil ?_ | refine next_normal ?_ | refine go_seq ?_ | refine go_region ?_ | refine go_skip ?_ | refine go_block ?_ | refine inb_normal ?_
    | (apply go_yes; (case hc => simp [v1, h2])) | (apply go_no; (case hc => simp [v1, h2]))
    | refine go_exit ?_ | refine next_exit ?_ | refine inb_here ?_ | refine inb_past (by decide) ?_ | refine go_ret ?_ | refine next_ret ?_ | refine inb_ret ?_))
    (apply ends_ok; (case h1 => simp; exact is_rfl); (case h2 => simp; exact is_rfl))
    simp
  by_cases h3 : 32 ≤ n
  · have h2' : inoOk n = false := by simp [inoOk]; omega
    rw [addR_err (e := 2) (by simp [addE, h1, h2']) (by decide)]
    (refine gives_iff ?_; refine go_func Tryd.f23 rfl rfl (by simp [Tryd.f23]) ?_; dsimp only [codeL, Tryd.f23, scL, sopsL, guardL, dstAt, loopKey])
    (repeat (first
    | (apply is_ok; (case hw => simp [v1, h2, h3]); (case he => simp [v1, h2, h3]; exact is_rfl))
    | (apply op_no; (case hw => simp [v1, h2, h3]))
    | refine op_nil ?_ | refine next_normal ?_ | refine go_seq ?_ | refine go_region ?_ | refine go_skip ?_ | refine go_block ?_ | refine inb_normal ?_
    | (apply go_yes; (case hc => simp [v1, h2, h3])) | (apply go_no; (case hc => simp [v1, h2, h3]))
    | refine go_exit ?_ | refine next_exit ?_ | refine inb_here ?_ | refine inb_past (by decide) ?_ | refine go_ret ?_ | refine next_ret ?_ | refine inb_ret ?_))
    (apply ends_ok; (case h1 => simp; exact is_rfl); (case h2 => simp; exact is_rfl))
    simp
  have h2' : inoOk n = true := by simp [inoOk]; omega
  have v3 := index_eq l (by unfold maxLen; omega) s
  cases hx : idxE s l with
  | some i =>
    rw [hx] at v3
    simp only at v3
    have g1 : (0 : Int) ≤ i := by omega
    rw [addR_err (e := 14) (by simp [addE, h1, h2', hx]) (by decide)]
    (refine gives_iff ?_; refine go_func Tryd.f23 rfl rfl (by simp [Tryd.f23]) ?_; dsimp only [codeL, Tryd.f23, scL, sopsL, guardL, dstAt, loopKey])
    (repeat (first
    | (apply is_ok; (case hw => simp [v1, h2, h3, v3, g1]); (case he => simp [v1, h2, h3, v3, g1]; exact is_rfl))
    | (apply op_no; (case hw => simp [v1, h2, h3, v3, g1]))
    | refine op_nil ?_ | refine next_normal ?_ | refine go_seq ?_ | refine go_region ?_ | refine go_skip ?_ | refine go_block ?_ | refine inb_normal ?_
    | (apply go_yes; (case hc => simp [v1, h2, h3, v3, g1])) | (apply go_no; (case hc => simp [v1, h2, h3, v3, g1]))
    | refine go_exit ?_ | refine next_exit ?_ | refine inb_here ?_ | refine inb_past (by decide) ?_ | refine go_ret ?_ | refine next_ret ?_ | refine inb_ret ?_))
    (apply ends_ok; (case h1 => simp; exact is_rfl); (case h2 => simp; exact is_rfl))
    simp
  | none =>
  rw [hx] at v3
  simp only at v3
  by_cases h4 : (64 : Int) ≤ l.length
  · have h4' : 64 ≤ l.length := by omega
    rw [addR_err (e := 12) (by simp [addE, h1, h2', hx, h4']) (by decide)]
    (refine gives_iff ?_; refine go_func Tryd.f23 rfl rfl (by simp [Tryd.f23]) ?_; dsimp only [codeL, Tryd.f23, scL, sopsL, guardL, dstAt, loopKey])
    (repeat (first
    | (apply is_ok; (case hw => simp [v1, h2, h3, v3, h4]); (case he => simp [v1, h2, h3, v3, h4]; exact is_rfl))
    | (apply op_no; (case hw => simp [v1, h2, h3, v3, h4]))
    | refine op_nil ?_ | refine next_normal ?_ | refine go_seq ?_ | refine go_region ?_ | refine go_skip ?_ | refine go_block ?_ | refine inb_normal ?_
    | (apply go_yes; (case hc => simp [v1, h2, h3, v3, h4])) | (apply go_no; (case hc => simp [v1, h2, h3, v3, h4]))
    | refine go_exit ?_ | refine next_exit ?_ | refine inb_here ?_ | refine inb_past (by decide) ?_ | refine go_ret ?_ | refine next_ret ?_ | refine inb_ret ?_))
    (apply ends_ok; (case h1 => simp; exact is_rfl); (case h2 => simp; exact is_rfl))
    simp
  have h4' : ¬ 64 ≤ l.length := by omega
  rw [addR_ok (by simp [addE, h1, h2', hx, h4'])]
  have hne := idxE_none.1 hx
  (refine gives_iff ?_; refine go_func Tryd.f23 rfl rfl (by simp [Tryd.f23]) ?_; dsimp only [codeL, Tryd.f23, scL, sopsL, guardL, dstAt, loopKey])
  (repeat (first
    | (apply is_ok; (case hw => simp [v1, h2, h3, v3, h4]); (case he => simp [v1, h2, h3, v3, h4]; exact is_rfl))
    | (apply op_no; (case hw => simp [v1, h2, h3, v3, h4]))
    | refine op_nil ?_ | refine next_normal ?_ | refine go_seq ?_ | refine go_region ?_ | refine go_skip ?_ | refine go_block ?_ | refine inb_normal ?_
    | (apply go_yes; (case hc => simp [v1, h2, h3, v3, h4])) | (apply go_no; (case hc => simp [v1, h2, h3, v3, h4]))
    | refine go_exit ?_ | refine next_exit ?_ | refine inb_here ?_ | refine inb_past (by decide) ?_ | refine go_ret ?_ | refine next_ret ?_ | refine inb_ret ?_))
  refine go_while (σ := Nat) (fun m => [(0, .sl (l.map entV)), (1, .str s), (2, .int .i64 n), (8, .int .i64 m)]) (fun _ => []) (fun m => k ≤ m ∧ m ≤ l.length) (fun m => m) l.length (by simp) ⟨hk.le, Nat.le_refl _⟩ fun m hm => ?_
  obtain ⟨hm1, hm2⟩ := hm
  cases m with
  | zero =>
    have : k = 0 := by omega
    subst this
    have r1 : (l.length + 1) * 24 ≤ room := by unfold room; omega
    have r2 : l.length + 1 ≤ room := by unfold room; omega
    have r3 : (1 + l.length) * 24 ≤ room := by unfold room; omega
    have r4 : 1 + l.length ≤ room := by unfold room; omega
    have r5 : 24 ≤ room := by decide
    (repeat (first
    | (apply is_ok; (case hw => simp [r1, r2, r3, r4, r5]); (case he => simp [r1, r2, r3, r4, r5]; exact is_rfl))
    | (apply op_no; (case hw => simp [r1, r2, r3, r4, r5]))
    | refine op_nil ?_ | refine next_normal ?_ | refine go_seq ?_ | refine go_region ?_ | refine go_skip ?_ | refine go_block ?_ | refine inb_normal ?_
    | (apply go_yes; (case hc => simp [r1, r2, r3, r4, r5])) | (apply go_no; (case hc => simp [r1, r2, r3, r4, r5]))
    | refine go_exit ?_ | refine next_exit ?_ | refine inb_here ?_ | refine inb_past (by decide) ?_ | refine go_ret ?_ | refine next_ret ?_ | refine inb_ret ?_))
    (apply ends_ok; (case h1 => simp; exact is_rfl); (case h2 => simp; exact is_rfl))
    simp [entV, Nat.add_comm, List.take_of_length_le]
  | succ m =>
    have hml : m < l.length := by omega
    have g1 : (0 : Int) < (m : Int) + 1 := by omega
    have g2 : (m : Int) < l.length := by omega
    have g3 : l[m]? = some l[m] := List.getElem?_eq_getElem hml
    have w1 : IntKind.i64.wrap (m : Int) = m := wrap_id (by omega) (by omega)
    have q1 := bl_le l[m].1 s
    have q2 := hk.lo m hml
    have q3 := hk.hi m hml
    by_cases hc : Op.bytesLess s l[m].1 = true
    · rw [hc] at q1
      simp only [Bool.not_true] at q1
      have : k ≤ m := by
        rcases Nat.lt_or_ge m k with h | h
        · have := q2 h
          rw [Bool.or_eq_false_iff] at q1
          rw [q1.1] at this
          cases this
        · exact h
      (repeat (first
    | (apply is_ok; (case hw => simp [g1, g2, g3, w1, hml, q1, entV]); (case he => simp [g1, g2, g3, w1, hml, q1, entV]; exact is_rfl))
    | (apply op_no; (case hw => simp [g1, g2, g3, w1, hml, q1, entV]))
    | refine op_nil ?_ | refine next_normal ?_ | refine go_seq ?_ | refine go_region ?_ | refine go_skip ?_ | refine go_block ?_ | refine inb_normal ?_
    | (apply go_yes; (case hc => simp [g1, g2, g3, w1, hml, q1, entV])) | (apply go_no; (case hc => simp [g1, g2, g3, w1, hml, q1, entV]))
    | refine go_exit ?_ | refine next_exit ?_ | refine inb_here ?_ | refine inb_past (by decide) ?_ | refine go_ret ?_ | refine next_ret ?_ | refine inb_ret ?_))
      exact ⟨m, by simp [entV], by simp, by omega, by omega⟩
    · rw [show Op.bytesLess s l[m].1 = false by simpa using hc] at q1
      simp only [Bool.not_false] at q1
      have hb : Op.bytesLess l[m].1 s = true := by
        rw [Bool.or_eq_true] at q1
        rcases q1 with h | h
        · exact h
        · exact absurd (by simpa using h) (hne l[m] (List.getElem_mem hml))
      have : k = m + 1 := by
        rcases Nat.lt_or_ge m k with h | h
        · omega
        · rw [q3 h] at hb; cases hb
      subst this
      obtain ⟨q, hq⟩ : ∃ q, q = m + 1 := ⟨_, rfl⟩
      rw [← hq] at hm2 ⊢
      have g0 : (0 : Int) < q := by omega
      have g0' : 0 < q := by omega
      have w1 : IntKind.i64.wrap ((q : Int) - 1) = m := by rw [wrap_id (by omega) (by omega)]; omega
      have t1 : min q l.length = q := by omega
      have t3 : q + 1 + (l.length - q) = l.length + 1 := by omega
      have r1 : (l.length + 1) * 24 ≤ room := by unfold room; omega
      have r2 : l.length + 1 ≤ room := by unfold room; omega
      have r3 : q * 24 ≤ room := by unfold room; omega
      have r4 : q ≤ room := by unfold room; omega
      have r5 : (q + 1) * 24 ≤ room := by unfold room; omega
      have r6 : q + 1 ≤ room := by unfold room; omega
      clear hk q2 q3 hm1 h4' hl
      rcases Nat.lt_or_ge q l.length with hql | hql
      · have g5 : l[q]? = some l[q] := List.getElem?_eq_getElem hql
        have g6 : ¬ q = l.length := by omega
        have g7 : ((entV l[q]).cells).length = 2 := rfl
        (repeat (first
    | (apply is_ok; (case hw => simp [g0, g0', g2, g3, w1, hml, q1, t1, t3, r1, r2, r3, r4, r5, r6, hm2, g5, g6, g7, hql]); (case he => simp [g0, g0', g2, g3, w1, hml, q1, t1, t3, r1, r2, r3, r4, r5, r6, hm2, g5, g6, g7, hql]; exact is_rfl))
    | (apply op_no; (case hw => simp [g0, g0', g2, g3, w1, hml, q1, t1, t3, r1, r2, r3, r4, r5, r6, hm2, g5, g6, g7, hql]))
    | refine op_nil ?_ | refine next_normal ?_ | refine go_seq ?_ | refine go_region ?_ | refine go_skip ?_ | refine go_block ?_ | refine inb_normal ?_
    | (apply go_yes; (case hc => simp [g0, g0', g2, g3, w1, hml, q1, t1, t3, r1, r2, r3, r4, r5, r6, hm2, g5, g6, g7, hql])) | (apply go_no; (case hc => simp [g0, g0', g2, g3, w1, hml, q1, t1, t3, r1, r2, r3, r4, r5, r6, hm2, g5, g6, g7, hql]))
    | refine go_exit ?_ | refine next_exit ?_ | refine inb_here ?_ | refine inb_past (by decide) ?_ | refine go_ret ?_ | refine next_ret ?_ | refine inb_ret ?_))
        (apply ends_ok; (case h1 => simp; exact is_rfl); (case h2 => simp; exact is_rfl))
        simp [entV, List.take_of_length_le]
      · have g5 : q = l.length := by omega
        subst g5
        (repeat (first
    | (apply is_ok; (case hw => simp [g0, g0', g2, g3, w1, hml, q1, t1, t3, r1, r2, r3, r4, r5, r6, hm2]); (case he => simp [g0, g0', g2, g3, w1, hml, q1, t1, t3, r1, r2, r3, r4, r5, r6, hm2]; exact is_rfl))
    | (apply op_no; (case hw => simp [g0, g0', g2, g3, w1, hml, q1, t1, t3, r1, r2, r3, r4, r5, r6, hm2]))
    | refine op_nil ?_ | refine next_normal ?_ | refine go_seq ?_ | refine go_region ?_ | refine go_skip ?_ | refine go_block ?_ | refine inb_normal ?_
    | (apply go_yes; (case hc => simp [g0, g0', g2, g3, w1, hml, q1, t1, t3, r1, r2, r3, r4, r5, r6, hm2])) | (apply go_no; (case hc => simp [g0, g0', g2, g3, w1, hml, q1, t1, t3, r1, r2, r3, r4, r5, r6, hm2]))
    | refine go_exit ?_ | refine next_exit ?_ | refine inb_here ?_ | refine inb_past (by decide) ?_ | refine go_ret ?_ | refine next_ret ?_ | refine inb_ret ?_))
        (apply ends_ok; (case h1 => simp; exact is_rfl); (case h2 => simp; exact is_rfl))
        simp [entV, List.take_of_length_le]
end Go.Abs
