/- Proved here: what functions of the program compute, over the evaluator. No condition but those that each theorem states. -/
import Derived.Test.YtbnnaaadblpgiaaGreatM2
namespace Go.Abs
open Go.Proofs
set_option maxRecDepth 100000
set_option linter.unusedSimpArgs false
set_option linter.unusedVariables false

theorem best_spec {l : List Ex} {w : Ex} {k : Int} : ∀ (cs : List Int) (b : Int), (∀ n ∈ cs, 0 ≤ n) → (b < 0 → b = -1) →
    (cs.foldl (bestS l w k) b = b ∨ (cs.foldl (bestS l w k) b ∈ cs ∧ roomP l w k (cs.foldl (bestS l w k) b))) ∧ (∀ n ∈ cs, roomP l w k n → 0 ≤ cs.foldl (bestS l w k) b ∧ cs.foldl (bestS l w k) b ≤ n) ∧ (0 ≤ b → 0 ≤ cs.foldl (bestS l w k) b ∧ cs.foldl (bestS l w k) b ≤ b)
  | [], b, _, _ => ⟨.inl rfl, (fun n hn => by cases hn), fun h => ⟨h, Int.le_refl _⟩⟩
  | n :: r, b, hp, hb => by
    have hn := hp n (by simp)
    rw [List.foldl_cons]
    by_cases hc : roomP l w k n ∧ (b < 0 ∨ n < b)
    · rw [show bestS l w k b n = n from if_pos hc]
      obtain ⟨i1, i2, i3⟩ := best_spec r n (fun m hm => hp m (by simp [hm])) (fun h => by omega)
      obtain ⟨i4, i5⟩ := i3 hn
      refine ⟨.inr ?_, fun m hm hr => ?_, fun h => ⟨i4, by omega⟩⟩
      · rcases i1 with h | ⟨h1, h2⟩
        · rw [h]; exact ⟨by simp, hc.1⟩
        · exact ⟨by simp [h1], h2⟩
      · rcases List.mem_cons.1 hm with rfl | hm
        · exact ⟨i4, i5⟩
        · exact i2 m hm hr
    · rw [show bestS l w k b n = b from if_neg hc]
      obtain ⟨i1, i2, i3⟩ := best_spec r b (fun m hm => hp m (by simp [hm])) hb
      refine ⟨?_, fun m hm hr => ?_, i3⟩
      · rcases i1 with h | ⟨h1, h2⟩
        · exact .inl h
        · exact .inr ⟨by simp [h1], h2⟩
      · rcases List.mem_cons.1 hm with rfl | hm
        · have : 0 ≤ b ∧ b ≤ m := by
            have h1 : ¬ (b < 0 ∨ m < b) := fun h => hc ⟨hr, h⟩
            omega
          obtain ⟨i4, i5⟩ := i3 this.1
          exact ⟨i4, by omega⟩
        · exact i2 m hm hr

theorem sorted_pair (l : List Int) : (sorted l).Pairwise (· ≤ ·) := by
  rw [sorted_eq]
  have tr : ∀ (a b c : Int), decide (a ≤ b) = true → decide (b ≤ c) = true → decide (a ≤ c) = true := fun a b c h1 h2 => by simp at *; omega
  have tt : ∀ (a b : Int), (decide (a ≤ b) || decide (b ≤ a)) = true := fun a b => by simp; omega
  exact (List.pairwise_mergeSort tr tt l).imp fun h => by simpa using h
theorem cand_pos {l : List Ex} {w : Ex} {m : Int} : candP l w m ↔ m ∈ posC l w := by
  unfold candP posC
  rw [List.mem_cons, List.mem_map]
  constructor
  · rintro (h | ⟨y, h1, h2, h3⟩)
    · exact .inl h
    · exact .inr ⟨y, List.mem_filter.2 ⟨h1, by simpa using h2⟩, h3.symm⟩
  · rintro (h | ⟨y, h1, h2⟩)
    · exact .inl h
    · obtain ⟨h3, h4⟩ := List.mem_filter.1 h1
      exact .inr ⟨y, h3, by simpa using h4, h2.symm⟩
theorem pos_all {l : List Ex} {w : Ex} {m : Int} (h : m ∈ posC l w) : m ∈ allC l w := by
  unfold posC at h
  unfold allC
  rcases List.mem_cons.1 h with h | h
  · exact List.mem_cons.2 (.inl h)
  · obtain ⟨y, h1, h2⟩ := List.mem_map.1 h
    exact List.mem_cons.2 (.inr (List.mem_map.2 ⟨y, (List.mem_filter.1 h1).1, h2⟩))

theorem fits {l : List Ex} {w : Ex} {k : Int} (hb : ∀ y ∈ l, UsuP y) (hw : UsuP w) (hk : 0 < k) : (∃ n, leastR l w k (posC l w) = some n ∧ bestF l w k (allC l w) = n ∧ 0 ≤ n) ∨ (leastR l w k (posC l w) = none ∧ bestF l w k (allC l w) = -1) := by
  have hp : ∀ n ∈ allC l w, 0 ≤ n := fun n hn => by
    rcases List.mem_cons.1 hn with rfl | hn
    · exact hw.1
    · obtain ⟨y, hy, rfl⟩ := List.mem_map.1 hn
      have := hb y hy
      have h1 := this.1
      have h2 := this.2.2.1
      omega
  obtain ⟨b1, b2, _⟩ := best_spec (l := l) (w := w) (k := k) (allC l w) (-1) hp (fun _ => rfl)
  change bestF l w k (allC l w) = -1 ∨ _ at b1
  change ∀ n ∈ allC l w, roomP l w k n → 0 ≤ bestF l w k (allC l w) ∧ bestF l w k (allC l w) ≤ n at b2
  cases hc : leastR l w k (posC l w) with
  | some n =>
    left
    obtain ⟨c1, c2, c3⟩ := find_sorted_min (sorted_pair _) hc
    have c2' : roomP l w k n := by simpa using c2
    obtain ⟨d1, d2⟩ := b2 n (pos_all (sorted_mem.1 c1)) c2'
    rcases b1 with h | ⟨h1, h2⟩
    · omega
    · obtain ⟨m, m1, m2, m3⟩ := room_cand hk h2
      have := c3 m (sorted_mem.2 (cand_pos.1 m1)) (by simpa using m3)
      change bestF l w k (allC l w) ∈ _ at h1
      change m ≤ bestF l w k (allC l w) at m2
      exact ⟨n, rfl, by omega, by omega⟩
  | none =>
    right
    refine ⟨rfl, ?_⟩
    rcases b1 with h | ⟨h1, h2⟩
    · exact h
    · obtain ⟨m, m1, m2, m3⟩ := room_cand hk h2
      unfold leastR at hc
      rw [List.find?_eq_none] at hc
      exact absurd (by simpa using m3) (hc m (sorted_mem.2 (cand_pos.1 m1)))

def UsuL (l : List Ex) : Prop := l.length ≤ 100 ∧ ∀ y ∈ l, UsuP y
instance (l : List Ex) : Decidable (UsuL l) := by unfold UsuL; infer_instance
/-- The arguments of the law. -/
theorem ex_cells {n : Nat} {cs : List V} (h : HasT Tryz.prog n 57 cs) : ∃ p : Ex, .agg cs = exV p := by
  obtain ⟨m, rfl, h1, h2⟩ := hasT_struct Tryz.underlying57 h
  have hl : cs.length = 2 := h1.trans (by kernel_rfl)
  match cs, hl with
  | [a, b], _ =>
    have f0 := h2 0 _ rfl
    have f1 := h2 1 _ rfl
    obtain ⟨y, e1, hY⟩ := hasT_int Tryz.underlying3 f0
    obtain ⟨z, e2, hZ⟩ := hasT_int Tryz.underlying3 f1
    have e1' : [a] = [V.int .i64 y] := e1
    have e2' : [b] = [V.int .i64 z] := e2
    cases e1'
    cases e2'
    exact ⟨(y, z), rfl⟩
theorem exs_of {x : V} (h : ArgT Tryz.prog 72 x) : ∃ l : List Ex, x = .sl (l.map exV) ∧ l.length ≤ maxLen := by
  obtain ⟨n, h1, h2⟩ := h
  rw [show aggT Tryz.prog 72 = some false by kernel_rfl] at h2
  rw [cells_one (Option.some.inj h2).symm] at h1
  obtain ⟨m, es, rfl, h3, h4, h5⟩ := hasT_slice Tryz.underlying72 (cells_ne (n := 2) (by kernel_rfl) (by decide)) h1
  cases h3
  obtain ⟨l, rfl, hp⟩ := map_of (p := fun _ => True) (f := exV) fun x hx => by
    obtain ⟨h6, h7⟩ := h5 x hx
    rw [show aggT Tryz.prog 57 = some true by kernel_rfl] at h6
    obtain ⟨cs, rfl⟩ := cells_some (Option.some.inj h6).symm
    obtain ⟨w, h8⟩ := ex_cells h7
    exact ⟨w, h8, trivial⟩
  exact ⟨l, rfl, by simpa using h4⟩
theorem ex_of {x : V} (h : ArgT Tryz.prog 57 x) : ∃ p : Ex, x = .agg [.int .i64 p.1, .int .i64 p.2] := by
  obtain ⟨n, h1, h2⟩ := h
  rw [show aggT Tryz.prog 57 = some true by kernel_rfl] at h2
  obtain ⟨cs, rfl⟩ := cells_some (Option.some.inj h2).symm
  exact ex_cells h1
end Go.Abs

namespace Go.Abs
open Go.Proofs
set_option maxRecDepth 100000
set_option linter.unusedSimpArgs false

end Go.Abs

namespace Go.Abs
open Go.Proofs
set_option maxRecDepth 100000
set_option linter.unusedSimpArgs false
set_option linter.unusedVariables false

theorem drv_cells {n : Nat} {cs : List V} (h : HasT Tryz.prog n 38 cs) : ∃ S B, cs = [.sl (strs S), .sl (ints B)] ∧ S.length ≤ maxLen ∧ B.length ≤ maxLen := by
  obtain ⟨m, rfl, h1, h2⟩ := hasT_struct Tryz.underlying38 h
  have hl : cs.length = 2 := h1.trans (by kernel_rfl)
  match cs, hl with
  | [a, b], _ =>
    have f0 := h2 0 _ rfl
    have f1 := h2 1 _ rfl
    obtain ⟨S, e1, hS, _⟩ := hasT_strs Tryz.underlying36 (cells_ne (n := 1) (by kernel_rfl) (by decide)) Tryz.underlying9 f0
    obtain ⟨B, e2, hB, _⟩ := hasT_ints Tryz.underlying26 (cells_ne (n := 1) (by kernel_rfl) (by decide)) Tryz.underlying3 f1
    have e1' : [a] = [V.sl (strs S)] := e1
    have e2' : [b] = [V.sl (ints B)] := e2
    cases e1'
    cases e2'
    exact ⟨S, B, rfl, hS, hB⟩
theorem drv_of {x : V} (h : ArgT Tryz.prog 38 x) : ∃ S B, x = drv S B ∧ S.length ≤ maxLen ∧ B.length ≤ maxLen := by
  obtain ⟨n, h1, h2⟩ := h
  rw [show aggT Tryz.prog 38 = some true by kernel_rfl] at h2
  obtain ⟨cs, rfl⟩ := cells_some (Option.some.inj h2).symm
  obtain ⟨S, B, h3, h4⟩ := drv_cells h1
  cases h3
  exact ⟨S, B, rfl, h4⟩

end Go.Abs

namespace Go.Abs
open Go.Proofs
set_option maxRecDepth 100000
set_option linter.unusedSimpArgs false
set_option linter.unusedVariables false

theorem piece (cs : List V) (o n : Nat) : cs.drop o = (cs.drop o).take n ++ cs.drop (o + n) := by
  rw [← List.drop_drop, List.take_append_drop]
theorem part_part (cs : List V) {o n p m : Nat} (h : p + m ≤ n) : (((cs.drop o).take n).drop p).take m = (cs.drop (o + p)).take m := by
  rw [List.drop_take, List.drop_drop, List.take_take]
  congr 1
  omega
/-- Cells out of plain ones. -/
def csOf (cs : List V) (hp : ∀ x ∈ cs, PlainV x) (o n : Nat) (h : o + n ≤ cs.length) : Cs n := ⟨(cs.drop o).take n, by simp; omega, fun x hx => hp x (List.mem_of_mem_drop (List.mem_of_mem_take hx))⟩

/-- All numbers of a process are numbers. -/
def Pr.Wf (p : Pr) : Prop := (-9223372036854775808 ≤ p.st ∧ p.st ≤ 9223372036854775807) ∧ (-9223372036854775808 ≤ p.base ∧ p.base ≤ 9223372036854775807) ∧ (-9223372036854775808 ≤ p.blk ∧ p.blk ≤ 9223372036854775807)

theorem pr_cells {n : Nat} {cs : List V} (h : HasT Tryz.prog n 47 cs) : ∃ p : Pr, cs = p.cells ∧ p.Wf := by
  have hp := hasT_plain 10 n 47 cs (by kernel_rfl) h
  obtain ⟨m, rfl, h1, h2⟩ := hasT_struct Tryz.underlying47 h
  have hl : cs.length = 29 := h1.trans (by kernel_rfl)
  have f2 := h2 2 _ rfl
  have f4 := h2 4 _ rfl
  have f5 := h2 5 _ rfl
  have f6 := h2 6 _ rfl
  obtain ⟨st, e2, w2⟩ := hasT_int Tryz.underlying3 f2
  obtain ⟨ba, e4, w4⟩ := hasT_int Tryz.underlying3 f4
  obtain ⟨bl, e5, w5⟩ := hasT_int Tryz.underlying3 f5
  obtain ⟨sw, e6⟩ := hasT_bool Tryz.underlying4 f6
  have e2' : (cs.drop 2).take 1 = [V.int .i64 st] := e2
  have e4' : (cs.drop 13).take 1 = [V.int .i64 ba] := e4
  have e5' : (cs.drop 14).take 1 = [V.int .i64 bl] := e5
  have e6' : (cs.drop 15).take 1 = [V.bool sw] := e6
  refine ⟨⟨csOf cs hp 0 2 (by omega), st, csOf cs hp 3 10 (by omega), ba, bl, sw, csOf cs hp 16 13 (by omega)⟩, ?_, wf_i64 w2, wf_i64 w4, wf_i64 w5⟩
  have e : cs = (cs.drop 0).take 2 ++ ((cs.drop 2).take 1 ++ ((cs.drop 3).take 10 ++ ((cs.drop 13).take 1 ++ ((cs.drop 14).take 1 ++ ((cs.drop 15).take 1 ++ (cs.drop 16).take 13))))) := by
    have h16 : (cs.drop 16).take 13 = cs.drop 16 := List.take_of_length_le (by simp; omega)
    rw [h16, ← piece cs 15 1, ← piece cs 14 1, ← piece cs 13 1, ← piece cs 3 10, ← piece cs 2 1, ← piece cs 0 2]
    rfl
  rw [e2', e4', e5', e6'] at e
  exact e

theorem prs_cells : ∀ (k : Nat) (part : List V), part.length = k * 29 → (∀ i, i < k → ∃ p : Pr, (part.drop (i * 29)).take 29 = p.cells ∧ p.Wf) → ∃ ps : List Pr, ps.length = k ∧ part = prsC ps ∧ ∀ p ∈ ps, p.Wf
  | 0, part, hl, _ => ⟨[], rfl, List.eq_nil_of_length_eq_zero (by omega), by simp⟩
  | k + 1, part, hl, h => by
    obtain ⟨p, h1, h2⟩ := h 0 (by omega)
    obtain ⟨ps, h3, h4, h5⟩ := prs_cells k (part.drop 29) (by simp; omega) fun i hi => by
      obtain ⟨q, h6, h7⟩ := h (i + 1) (by omega)
      refine ⟨q, ?_, h7⟩
      rw [List.drop_drop, show 29 + i * 29 = (i + 1) * 29 by omega]
      exact h6
    refine ⟨p :: ps, by simp [h3], ?_, fun q hq => ?_⟩
    · have e : part = (part.drop (0 * 29)).take 29 ++ part.drop 29 := by simp
      rw [e, h1, h4]
      simp [prsC]
    · rcases List.mem_cons.1 hq with rfl | hq
      · exact h2
      · exact h5 q hq

/-- What an argument of type api.System is. -/
structure Sys.Wf (s : Sys) : Prop where
  ps : ∀ p ∈ s.ps, p.Wf
  mem : s.mem.length ≤ maxLen
  memw : ∀ x ∈ s.mem, -9223372036854775808 ≤ x ∧ x ≤ 9223372036854775807
  bad : s.bad.length ≤ maxLen
  badw : ∀ x ∈ s.bad, -9223372036854775808 ≤ x ∧ x ≤ 9223372036854775807
  S : s.S.length ≤ maxLen
  B : s.B.length ≤ maxLen

theorem sys_of {x : V} (h : ArgT Tryz.prog 59 x) : ∃ s : Sys, x = .agg s.cells ∧ s.Wf := by
  obtain ⟨n, h1, h2⟩ := h
  rw [show aggT Tryz.prog 59 = some true by kernel_rfl] at h2
  obtain ⟨cs, rfl⟩ := cells_some (Option.some.inj h2).symm
  have h1' : HasT Tryz.prog n 59 cs := h1
  have hp := hasT_plain 10 n 59 cs (by kernel_rfl) h1'
  obtain ⟨m, rfl, h3, h4⟩ := hasT_struct Tryz.underlying59 h1'
  have hl : cs.length = 518 := h3.trans (by kernel_rfl)
  have fM := h4 0 _ rfl
  have fP := h4 1 _ rfl
  have fS := h4 5 _ rfl
  have fC := h4 6 _ rfl
  obtain ⟨m1, rfl, _, hM⟩ := hasT_struct Tryz.underlying44 fM
  have fmem := hM 1 _ rfl
  have fbad := hM 2 _ rfl
  have fdisk := hM 6 _ rfl
  obtain ⟨m2, rfl, _, hD⟩ := hasT_struct Tryz.underlying40 fdisk
  have fdrv := hD 0 _ rfl
  obtain ⟨m3, rfl, _, hV⟩ := hasT_struct Tryz.underlying38 fdrv
  have fsec := hV 0 _ rfl
  have fb := hV 1 _ rfl
  obtain ⟨mem, e1, hm1, hm2⟩ := hasT_ints Tryz.underlying26 (cells_ne (n := 1) (by kernel_rfl) (by decide)) Tryz.underlying3 fmem
  obtain ⟨bad, e2, hb1, hb2⟩ := hasT_ints Tryz.underlying26 (cells_ne (n := 1) (by kernel_rfl) (by decide)) Tryz.underlying3 fbad
  obtain ⟨S, e3, hS, _⟩ := hasT_strs Tryz.underlying36 (cells_ne (n := 1) (by kernel_rfl) (by decide)) Tryz.underlying9 fsec
  obtain ⟨B, e4, hB, _⟩ := hasT_ints Tryz.underlying26 (cells_ne (n := 1) (by kernel_rfl) (by decide)) Tryz.underlying3 fb
  obtain ⟨sw, e5⟩ := ex_cells fS
  obtain ⟨co, e6⟩ := ex_cells fC
  have e1' : (cs.drop 10).take 1 = [V.sl (ints mem)] := (part_part cs (o := 0) (n := 110) (p := 10) (m := 1) (by decide)).symm.trans e1
  have e2' : (cs.drop 11).take 1 = [V.sl (ints bad)] := (part_part cs (o := 0) (n := 110) (p := 11) (m := 1) (by decide)).symm.trans e2
  have q1 : ∀ (p k : Nat), p + k ≤ 2 → (((((((cs.drop 0).take 110).drop 84).take 10).drop 0).take 2).drop p).take k = (cs.drop (84 + p)).take k := fun p k hk => by
    rw [part_part cs (o := 0) (n := 110) (p := 84) (m := 10) (by decide), part_part cs (o := 0 + 84) (n := 10) (p := 0) (m := 2) (by decide), part_part cs hk]
  have e3' : (cs.drop 84).take 1 = [V.sl (strs S)] := (q1 0 1 (by decide)).symm.trans e3
  have e4' : (cs.drop 85).take 1 = [V.sl (ints B)] := (q1 1 1 (by decide)).symm.trans e4
  have e5' : (cs.drop 511).take 2 = [.int .i64 sw.1, .int .i64 sw.2] := by have := V.agg.inj e5; exact this
  have e6' : (cs.drop 513).take 2 = [.int .i64 co.1, .int .i64 co.2] := by have := V.agg.inj e6; exact this
  obtain ⟨m4, _, _, hA⟩ := hasT_array Tryz.underlying48 fP
  obtain ⟨ps, hps, e7, hpw⟩ := prs_cells 8 ((cs.drop 110).take 232) (by simp; omega) fun i hi => pr_cells (hA i hi)
  refine ⟨⟨csOf cs hp 0 10 (by omega), mem, bad, csOf cs hp 12 72 (by omega), S, B, csOf cs hp 86 24 (by omega), ps, hps, csOf cs hp 342 169 (by omega), sw, co, csOf cs hp 515 3 (by omega)⟩, ?_, hpw, hm1, fun x hx => wf_i64 (hm2 x hx), hb1, fun x hx => wf_i64 (hb2 x hx), hS, hB⟩
  have e : cs = (cs.drop 0).take 10 ++ ((cs.drop 10).take 1 ++ ((cs.drop 11).take 1 ++ ((cs.drop 12).take 72 ++ ((cs.drop 84).take 1 ++ ((cs.drop 85).take 1 ++ ((cs.drop 86).take 24 ++ ((cs.drop 110).take 232 ++ ((cs.drop 342).take 169 ++ ((cs.drop 511).take 2 ++ ((cs.drop 513).take 2 ++ (cs.drop 515).take 3)))))))))) := by
    have h16 : (cs.drop 515).take 3 = cs.drop 515 := List.take_of_length_le (by simp; omega)
    rw [h16, ← piece cs 513 2, ← piece cs 511 2, ← piece cs 342 169, ← piece cs 110 232, ← piece cs 86 24, ← piece cs 85 1, ← piece cs 84 1, ← piece cs 12 72, ← piece cs 11 1, ← piece cs 10 1, ← piece cs 0 10]
    rfl
  rw [e1', e2', e3', e4', e5', e6', e7] at e
  exact congrArg V.agg e
end Go.Abs

namespace Go.Abs
open Go.Proofs
set_option maxRecDepth 100000
set_option linter.unusedSimpArgs false
set_option linter.unusedVariables false

/-- Types whose values are compared by '==' cell by cell. -/
def cmpT (P : Program) : Nat → TypeId → Bool
  | 0, _ => false
  | n + 1, t => match P.underlying t with
    | some .bool | some (.int _) | some .string => true
    | some (.struct fs) => !P.stoodInHeld t && ((fs.toList.all fun f => okT P f.type && decide (sizeL P f.type = P.cellsOf f.type) && decide (f.offset + sizeL P f.type ≤ P.cellsOf t) && cmpT P n f.type) && (List.range (P.cellsOf t)).all fun j => fs.toList.any fun f => decide (f.offset ≤ j) && decide (j < f.offset + P.cellsOf f.type))
    | some (.array m e) => okT P e && decide (sizeL P e = P.cellsOf e) && decide (P.cellsOf t = m * P.cellsOf e) && cmpT P n e
    | _ => false

theorem cmp_val {P : Program} : ∀ (k n : Nat) (t : TypeId) (xs : List V), cmpT P k t = true → HasT P n t xs → ∀ x ∈ xs, ∃ v, toVal x = some v
  | 0, _, _, _, h, _ => by cases h
  | k + 1, 0, _, _, _, h => h.elim
  | k + 1, n + 1, t, xs, hk, h => by
    intro x hx
    simp only [cmpT] at hk
    simp only [HasT] at h
    cases hu : P.underlying t with
    | none => rw [hu] at hk; cases hk
    | some d =>
      rw [hu] at hk h
      cases d
      case bool => obtain ⟨b, rfl⟩ := h; rw [List.mem_singleton.1 hx]; exact ⟨_, rfl⟩
      case int kk => obtain ⟨m, rfl, _⟩ := h; rw [List.mem_singleton.1 hx]; exact ⟨_, rfl⟩
      case string => obtain ⟨s, rfl, _⟩ := h; rw [List.mem_singleton.1 hx]; exact ⟨_, rfl⟩
      case struct fs =>
        simp only [Bool.and_eq_true, List.all_eq_true, List.mem_range, List.any_eq_true, decide_eq_true_eq] at hk
        obtain ⟨j, hj, rfl⟩ := List.mem_iff_getElem.1 hx
        obtain ⟨f, hf, h1, h2⟩ := hk.2.2 j (by rw [← h.1]; exact hj)
        exact cmp_val k n f.type _ (hk.2.1 f hf).2 (h.2 f hf) _ (mem_part hj h1 h2)
      case array m e =>
        simp only [Bool.and_eq_true, decide_eq_true_eq] at hk
        obtain ⟨j, hj, rfl⟩ := List.mem_iff_getElem.1 hx
        have hj' : j < m * P.cellsOf e := by have := h.1; omega
        have hc : 0 < P.cellsOf e := by
          rcases Nat.eq_zero_or_pos (P.cellsOf e) with h0 | h0
          · rw [h0] at hj'; omega
          · exact h0
        have h1 : j / P.cellsOf e < m := (Nat.div_lt_iff_lt_mul hc).2 hj'
        have h2 := Nat.div_add_mod j (P.cellsOf e)
        have h3 := Nat.mod_lt j hc
        rw [Nat.mul_comm] at h2
        exact cmp_val k n e _ hk.2 (h.2 _ h1) _ (mem_part hj (by omega) (by omega))
      all_goals (simp only at hk; cases hk)

theorem eqFs_true {g : Field → Option Bool} : ∀ (l : List Field), (∀ f ∈ l, g f = some true) → eqFs g l = some true
  | [], _ => rfl
  | f :: l, h => by
    rw [eqFs, h f (by simp), eqFs_true l fun f hf => h f (by simp [hf])]
    simp
theorem eqNs_true {g : Nat → Option Bool} : ∀ (l : List Nat), (∀ f ∈ l, g f = some true) → eqNs g l = some true
  | [], _ => rfl
  | f :: l, h => by
    rw [eqNs, h f (by simp), eqNs_true l fun f hf => h f (by simp [hf])]
    simp

theorem eqL_refl {P : Program} : ∀ (k D n : Nat) (t : TypeId) (xs : List V), k ≤ D → cmpT P k t = true → HasT P n t xs → eqL P D t xs xs = some true
  | 0, _, _, _, _, _, h, _ => by cases h
  | k + 1, 0, _, _, _, h, _, _ => by omega
  | k + 1, D + 1, 0, _, _, _, _, h => h.elim
  | k + 1, D + 1, n + 1, t, xs, hD, hk, h => by
    simp only [cmpT] at hk
    simp only [HasT] at h
    simp only [eqL]
    cases hu : P.underlying t with
    | none => rw [hu] at hk; cases hk
    | some d =>
      rw [hu] at hk h
      cases d
      case bool => obtain ⟨b, rfl⟩ := h; simp
      case int kk => obtain ⟨m, rfl, _⟩ := h; simp
      case string => obtain ⟨s, rfl, _⟩ := h; simp
      case struct fs =>
        simp only [Bool.and_eq_true, List.all_eq_true, decide_eq_true_eq] at hk
        obtain ⟨h0, h1, _⟩ := hk
        simp only
        rw [if_neg (by simpa using h0)]
        refine eqFs_true _ fun f hf => ?_
        obtain ⟨⟨⟨a1, a2⟩, a3⟩, a4⟩ := h1 f hf
        rw [if_pos ⟨a1, by rw [h.1]; exact a3, trivial⟩, a2]
        exact eqL_refl k D n f.type _ (by omega) a4 (h.2 f hf)
      case array m e =>
        simp only [Bool.and_eq_true, decide_eq_true_eq] at hk
        obtain ⟨⟨⟨a1, a2⟩, a3⟩, a4⟩ := hk
        simp only
        rw [if_pos a1]
        refine eqNs_true _ fun i hi => ?_
        have hi' := List.mem_range.1 hi
        rw [if_pos ⟨by rw [a2, h.1, a3]; have := Nat.mul_le_mul_right (P.cellsOf e) (show i + 1 ≤ m from hi'); rw [Nat.add_mul, Nat.one_mul] at this; exact this, trivial⟩, a2]
        exact eqL_refl k D n e _ (by omega) a4 (h.2 i hi')
      all_goals (simp only at hk; cases hk)

theorem toVals_all : ∀ {xs : List V}, (∀ x ∈ xs, ∃ v, toVal x = some v) → ∃ cx, toVals xs = some cx
  | [], _ => ⟨[], rfl⟩
  | x :: xs, h => by
    obtain ⟨v, hv⟩ := h x (by simp)
    obtain ⟨vs, hvs⟩ := toVals_all (xs := xs) fun y hy => h y (by simp [hy])
    exact ⟨v :: vs, by rw [toVals, hv, hvs]⟩

/-- Two equal values are equal. -/
theorem same_agg {P : Program} {k n : Nat} {t : TypeId} {xs : List V} (hk : k ≤ 10000) (hc : cmpT P k t = true) (hag : aggT P t = some true) (hg : P.eqGuardType P.depth t = false) (h : HasT P n t xs) :
    binV P .eql t (.agg xs) (.agg xs) = some (.bool true) ∧ binV P .neq t (.agg xs) (.agg xs) = some (.bool false) := by
  obtain ⟨cx, hcx⟩ := toVals_all (cmp_val k n t xs hc h)
  have := binV_agg (d := 10000) rfl hag hg hcx hcx (eqL_refl k 10000 n t xs hk hc h)
  simpa using this
end Go.Abs

namespace Go.Abs
open Go.Proofs
set_option maxRecDepth 100000
set_option linter.unusedSimpArgs false
set_option linter.unusedVariables false

theorem sub_mid {P : Program} {t : TypeId} {z : TypeInfo} {off : Nat} {cs mid : List V} (hz : P.info? t = some z) (ha : aggT P t = some true) (hl : off + z.size ≤ cs.length) (h : (cs.drop off).take z.size = mid) : sub P t (.agg cs) off = some (.agg mid) := by
  have hm : mid.length = z.size := by rw [← h, List.length_take, List.length_drop]; omega
  have e : cs = cs.take off ++ (mid ++ cs.drop (off + z.size)) := by
    rw [← h, ← List.drop_drop, List.take_append_drop, List.take_append_drop]
  rw [e]
  exact sub_agg hz ha (by rw [List.length_take]; omega) hm
theorem sub_cell {P : Program} {t : TypeId} {z : TypeInfo} {off : Nat} {cs : List V} {x : V} (hz : P.info? t = some z) (ha : aggT P t = some false) (hm : z.size = 1) (hl : off + 1 ≤ cs.length) (h : (cs.drop off).take 1 = [x]) (hx : x.isAgg = false) : sub P t (.agg cs) off = some x := by
  have e : cs = cs.take off ++ x :: cs.drop (off + 1) := by
    have : cs.drop off = x :: cs.drop (off + 1) := by
      rw [← List.drop_drop, ← List.singleton_append, ← h, List.take_append_drop]
    rw [← this, List.take_append_drop]
  rw [e]
  exact sub_one hz ha (by rw [List.length_take]; omega) hm hx

theorem drop_more {m : List V} {o k p q : Nat} (h : p + q ≤ k) : ((((m.drop o).take k).drop p).take q) = (m.drop (o + p)).take q := by
  rw [List.drop_take, List.drop_drop, List.take_take]
  congr 1
  omega

/-- What is compared of a machine. -/
structure MchP (m : List V) : Prop where
  len : m.length = 110
  pl : ∀ x ∈ m, PlainV x
  cpu : ∃ n, HasT Tryz.prog n 25 ((m.drop 0).take 10)
  mem : ∃ l : List Int, l.length ≤ maxLen ∧ (m.drop 10).take 1 = [.sl (ints l)]
  bad : ∃ l : List Int, l.length ≤ maxLen ∧ (m.drop 11).take 1 = [.sl (ints l)]
  mmu : ∃ n, HasT Tryz.prog n 32 ((m.drop 12).take 67)
  clk : ∃ n, HasT Tryz.prog n 34 ((m.drop 79).take 4)
  lns : ∃ L : List V, L.length ≤ maxLen ∧ (m.drop 83).take 1 = [.sl L] ∧ ∀ x ∈ L, ∃ n cs, x = .agg cs ∧ HasT Tryz.prog n 158 cs
  dS : ∃ l : List (List UInt8), l.length ≤ maxLen ∧ (m.drop 84).take 1 = [.sl (strs l)]
  dB : ∃ l : List Int, l.length ≤ maxLen ∧ (m.drop 85).take 1 = [.sl (ints l)]
  dk : ∃ (a b c : Bool) (d e f g h : Int), (m.drop 86).take 8 = [.bool a, .bool b, .bool c, .int .i64 d, .int .i64 e, .int .i64 f, .int .i64 g, .int .i64 h]
  rc : ∃ l : List (List UInt8), l.length ≤ maxLen ∧ (m.drop 94).take 1 = [.sl (strs l)]
  tp : ∃ (p : Int) (a b c d e : Bool) (f g h i : Int), (m.drop 95).take 10 = [.int .i64 p, .bool a, .bool b, .bool c, .bool d, .bool e, .int .i64 f, .int .i64 g, .int .i64 h, .int .i64 i]
  rs : ∃ (p : Int) (a b : Bool) (q : Int) (c : Bool), (m.drop 105).take 5 = [.int .i64 p, .bool a, .bool b, .int .i64 q, .bool c]

theorem sameI_all (l : List Int) (hl : l.length ≤ maxLen) : bodyW DC 43 [.sl (ints l), .sl (ints l)] [] = some (.bool true, []) := by
  unfold maxLen at hl
  (refine gives_iff ?_; refine go_func Tryz.f43 rfl rfl (by simp [Tryz.f43]) ?_; dsimp only [codeL, Tryz.f43, scL, sopsL, guardL, dstAt, loopKey])
  (repeat (first
    | (apply is_ok; (case hw => simp); (case he => simp; exact is_rfl))
    | (apply op_no; (case hw => simp))
    | refine op_nil ?_ | refine next_normal ?_ | refine go_seq ?_ | refine go_region ?_ | refine go_skip ?_ | refine go_block ?_ | refine inb_normal ?_
    | (apply go_yes; (case hc => simp)) | (apply go_no; (case hc => simp))
    | refine go_exit ?_ | refine next_exit ?_ | refine inb_here ?_ | refine inb_past (by decide) ?_ | refine go_ret ?_ | refine next_ret ?_ | refine inb_ret ?_))
  refine go_count l.length (fun i => [(0, .sl (ints l)), (1, .sl (ints l)), (5, .int .i64 i)]) (fun _ => []) (fun _ => True) (by simp) trivial fun i hi _ => ?_
  by_cases hlt : i < l.length
  · have hw : IntKind.i64.wrap ((i : Int) + 1) = (i : Int) + 1 := wrap_id (by omega) (by omega)
    (repeat (first
    | (apply is_ok; (case hw => simp [hlt]); (case he => simp [hlt]; exact is_rfl))
    | (apply op_no; (case hw => simp [hlt]))
    | refine op_nil ?_ | refine next_normal ?_ | refine go_seq ?_ | refine go_region ?_ | refine go_skip ?_ | refine go_block ?_ | refine inb_normal ?_
    | (apply go_yes; (case hc => simp [hlt])) | (apply go_no; (case hc => simp [hlt]))
    | refine go_exit ?_ | refine next_exit ?_ | refine inb_here ?_ | refine inb_past (by decide) ?_ | refine go_ret ?_ | refine next_ret ?_ | refine inb_ret ?_))
    exact ⟨hlt, by simp [hw], trivial⟩
  · (repeat (first
    | (apply is_ok; (case hw => simp [hlt]); (case he => simp [hlt]; exact is_rfl))
    | (apply op_no; (case hw => simp [hlt]))
    | refine op_nil ?_ | refine next_normal ?_ | refine go_seq ?_ | refine go_region ?_ | refine go_skip ?_ | refine go_block ?_ | refine inb_normal ?_
    | (apply go_yes; (case hc => simp [hlt])) | (apply go_no; (case hc => simp [hlt]))
    | refine go_exit ?_ | refine next_exit ?_ | refine inb_here ?_ | refine inb_past (by decide) ?_ | refine go_ret ?_ | refine next_ret ?_ | refine inb_ret ?_))
    (apply ends_ok; (case h1 => simp; exact is_rfl); (case h2 => simp; exact is_rfl))
    simp

theorem sameT_all (l : List (List UInt8)) (hl : l.length ≤ maxLen) : bodyW DC 105 [.sl (strs l), .sl (strs l)] [] = some (.bool true, []) := by
  unfold maxLen at hl
  (refine gives_iff ?_; refine go_func Tryz.f105 rfl rfl (by simp [Tryz.f105]) ?_; dsimp only [codeL, Tryz.f105, scL, sopsL, guardL, dstAt, loopKey])
  (repeat (first
    | (apply is_ok; (case hw => simp); (case he => simp; exact is_rfl))
    | (apply op_no; (case hw => simp))
    | refine op_nil ?_ | refine next_normal ?_ | refine go_seq ?_ | refine go_region ?_ | refine go_skip ?_ | refine go_block ?_ | refine inb_normal ?_
    | (apply go_yes; (case hc => simp)) | (apply go_no; (case hc => simp))
    | refine go_exit ?_ | refine next_exit ?_ | refine inb_here ?_ | refine inb_past (by decide) ?_ | refine go_ret ?_ | refine next_ret ?_ | refine inb_ret ?_))
  refine go_count l.length (fun i => [(0, .sl (strs l)), (1, .sl (strs l)), (5, .int .i64 i)]) (fun _ => []) (fun _ => True) (by simp) trivial fun i hi _ => ?_
  by_cases hlt : i < l.length
  · have hw : IntKind.i64.wrap ((i : Int) + 1) = (i : Int) + 1 := wrap_id (by omega) (by omega)
    (repeat (first
    | (apply is_ok; (case hw => simp [hlt]); (case he => simp [hlt]; exact is_rfl))
    | (apply op_no; (case hw => simp [hlt]))
    | refine op_nil ?_ | refine next_normal ?_ | refine go_seq ?_ | refine go_region ?_ | refine go_skip ?_ | refine go_block ?_ | refine inb_normal ?_
    | (apply go_yes; (case hc => simp [hlt])) | (apply go_no; (case hc => simp [hlt]))
    | refine go_exit ?_ | refine next_exit ?_ | refine inb_here ?_ | refine inb_past (by decide) ?_ | refine go_ret ?_ | refine next_ret ?_ | refine inb_ret ?_))
    exact ⟨hlt, by simp [hw], trivial⟩
  · (repeat (first
    | (apply is_ok; (case hw => simp [hlt]); (case he => simp [hlt]; exact is_rfl))
    | (apply op_no; (case hw => simp [hlt]))
    | refine op_nil ?_ | refine next_normal ?_ | refine go_seq ?_ | refine go_region ?_ | refine go_skip ?_ | refine go_block ?_ | refine inb_normal ?_
    | (apply go_yes; (case hc => simp [hlt])) | (apply go_no; (case hc => simp [hlt]))
    | refine go_exit ?_ | refine next_exit ?_ | refine inb_here ?_ | refine inb_past (by decide) ?_ | refine go_ret ?_ | refine next_ret ?_ | refine inb_ret ?_))
    (apply ends_ok; (case h1 => simp; exact is_rfl); (case h2 => simp; exact is_rfl))
    simp

theorem sameL_all (L : List V) (hl : L.length ≤ maxLen) (h : ∀ x ∈ L, ∃ n cs, x = .agg cs ∧ HasT Tryz.prog n 158 cs) : bodyW DC 84 [.sl L, .sl L] [] = some (.bool true, []) := by
  unfold maxLen at hl
  (refine gives_iff ?_; refine go_func Tryz.f84 rfl rfl (by simp [Tryz.f84]) ?_; dsimp only [codeL, Tryz.f84, scL, sopsL, guardL, dstAt, loopKey])
  (repeat (first
    | (apply is_ok; (case hw => simp); (case he => simp; exact is_rfl))
    | (apply op_no; (case hw => simp))
    | refine op_nil ?_ | refine next_normal ?_ | refine go_seq ?_ | refine go_region ?_ | refine go_skip ?_ | refine go_block ?_ | refine inb_normal ?_
    | (apply go_yes; (case hc => simp)) | (apply go_no; (case hc => simp))
    | refine go_exit ?_ | refine next_exit ?_ | refine inb_here ?_ | refine inb_past (by decide) ?_ | refine go_ret ?_ | refine next_ret ?_ | refine inb_ret ?_))
  refine go_count L.length (fun i => [(0, .sl L), (1, .sl L), (5, .int .i64 i)]) (fun _ => []) (fun _ => True) (by simp) trivial fun i hi _ => ?_
  by_cases hlt : i < L.length
  · have hw : IntKind.i64.wrap ((i : Int) + 1) = (i : Int) + 1 := wrap_id (by omega) (by omega)
    obtain ⟨n, cs, hx, hn⟩ := h _ (List.getElem_mem hlt)
    have g2 : L[i]? = some (.agg cs) := by rw [List.getElem?_eq_getElem hlt, hx]
    have hsz : cs.length = 9 := by
      obtain ⟨m, _, h1, _⟩ := hasT_struct Tryz.underlying158 hn
      exact h1.trans (by kernel_rfl)
    have k1 := (same_agg (k := 10) (by decide) (by kernel_rfl) (by kernel_rfl) (by kernel_rfl) hn).2
    have k0 : sub Tryz.prog 158 (.agg cs) 0 = some (.agg cs) := Go.Abs.sub_all inf158 agg158 (hsz.trans tsz158.symm)
    (repeat (first
    | (apply is_ok; (case hw => simp [hlt, hw, g2, hx, hsz, k1, k0, -binV]); (case he => simp [hlt, hw, g2, hx, hsz, k1, k0, -binV]; exact is_rfl))
    | (apply op_no; (case hw => simp [hlt, hw, g2, hx, hsz, k1, k0, -binV]))
    | refine op_nil ?_ | refine next_normal ?_ | refine go_seq ?_ | refine go_region ?_ | refine go_skip ?_ | refine go_block ?_ | refine inb_normal ?_
    | (apply go_yes; (case hc => simp [hlt, hw, g2, hx, hsz, k1, k0, -binV])) | (apply go_no; (case hc => simp [hlt, hw, g2, hx, hsz, k1, k0, -binV]))
    | refine go_exit ?_ | refine next_exit ?_ | refine inb_here ?_ | refine inb_past (by decide) ?_ | refine go_ret ?_ | refine next_ret ?_ | refine inb_ret ?_))
    exact ⟨hlt, by simp [hw], trivial⟩
  · (repeat (first
    | (apply is_ok; (case hw => simp [hlt]); (case he => simp [hlt]; exact is_rfl))
    | (apply op_no; (case hw => simp [hlt]))
    | refine op_nil ?_ | refine next_normal ?_ | refine go_seq ?_ | refine go_region ?_ | refine go_skip ?_ | refine go_block ?_ | refine inb_normal ?_
    | (apply go_yes; (case hc => simp [hlt])) | (apply go_no; (case hc => simp [hlt]))
    | refine go_exit ?_ | refine next_exit ?_ | refine inb_here ?_ | refine inb_past (by decide) ?_ | refine go_ret ?_ | refine next_ret ?_ | refine inb_ret ?_))
    (apply ends_ok; (case h1 => simp; exact is_rfl); (case h2 => simp; exact is_rfl))
    simp

section
variable {m : List V} (h : MchP m)
include h
theorem mch_seal (H : Heap) : sealL H m = some (m, []) := plain_sealL _ h.pl
theorem mch_refs : refsL m = [] := plain_refsL _ h.pl
theorem mch_ren (ρ : Nat → Option Nat) : renL ρ m = m := plain_renL _ h.pl

set_option maxHeartbeats 4000000 in
theorem diff23_refl : bodyW DC 70 [.agg m, .agg m] [] = some (.own 0 0 0 0, [.dat true 1 []]) := by
  have hl := h.len
  obtain ⟨n1, t1⟩ := h.cpu
  obtain ⟨n2, t2⟩ := h.mmu
  obtain ⟨n3, t3⟩ := h.clk
  obtain ⟨me, me1, me2⟩ := h.mem
  obtain ⟨ba, ba1, ba2⟩ := h.bad
  obtain ⟨L, L1, L2, L3⟩ := h.lns
  obtain ⟨dS, dS1, dS2⟩ := h.dS
  obtain ⟨dB, dB1, dB2⟩ := h.dB
  obtain ⟨a1, a2, a3, a4, a5, a6, a7, a8, dk⟩ := h.dk
  obtain ⟨rc, rc1, rc2⟩ := h.rc
  obtain ⟨b1, b2, b3, b4, b5, b6, b7, b8, b9, b10, tp⟩ := h.tp
  obtain ⟨c1, c2, c3, c4, c5, rs⟩ := h.rs
  have e1 := (same_agg (k := 10) (by decide) (by kernel_rfl) (by kernel_rfl) (by kernel_rfl) t1).1
  have e2 := (same_agg (k := 10) (by decide) (by kernel_rfl) (by kernel_rfl) (by kernel_rfl) t2).1
  have e3 := (same_agg (k := 10) (by decide) (by kernel_rfl) (by kernel_rfl) (by kernel_rfl) t3).1
  generalize hc : (m.drop 0).take 10 = cc at t1 e1
  generalize hm : (m.drop 12).take 67 = mm at t2 e2
  generalize hk : (m.drop 79).take 4 = kk at t3 e3
  have s1 : sub Tryz.prog 25 (.agg m) 0 = some (.agg cc) := sub_mid inf25 agg25 (by rw [tsz25]; omega) (by rw [tsz25]; exact hc)
  have s2 : sub Tryz.prog 32 (.agg m) 12 = some (.agg mm) := sub_mid inf32 agg32 (by rw [tsz32]; omega) (by rw [tsz32]; exact hm)
  have s3 : sub Tryz.prog 34 (.agg m) 79 = some (.agg kk) := sub_mid inf34 agg34 (by rw [tsz34]; omega) (by rw [tsz34]; exact hk)
  have s4 : sub Tryz.prog 26 (.agg m) 10 = some (.sl (ints me)) := sub_cell inf26 agg26 tsz26 (by omega) me2 rfl
  have s5 : sub Tryz.prog 26 (.agg m) 11 = some (.sl (ints ba)) := sub_cell inf26 agg26 tsz26 (by omega) ba2 rfl
  have s6 : sub Tryz.prog 35 (.agg m) 83 = some (.sl L) := sub_cell inf35 agg35 tsz35 (by omega) L2 rfl
  have hD : (m.drop 84).take 10 = [.sl (strs dS), .sl (ints dB), .bool a1, .bool a2, .bool a3, .int .i64 a4, .int .i64 a5, .int .i64 a6, .int .i64 a7, .int .i64 a8] := by
    have x1 : (m.drop 84).take 10 = (m.drop 84).take 1 ++ ((m.drop 85).take 1 ++ (m.drop 86).take 8) := by
      rw [show (10 : Nat) = 1 + 9 from rfl, List.take_add, List.drop_drop, show (9 : Nat) = 1 + 8 from rfl, List.take_add, List.drop_drop]
    rw [x1, dS2, dB2, dk]
    rfl
  have hT : (m.drop 94).take 11 = [.sl (strs rc), .int .i64 b1, .bool b2, .bool b3, .bool b4, .bool b5, .bool b6, .int .i64 b7, .int .i64 b8, .int .i64 b9, .int .i64 b10] := by
    have x1 : (m.drop 94).take 11 = (m.drop 94).take 1 ++ (m.drop 95).take 10 := by
      rw [show (11 : Nat) = 1 + 10 from rfl, List.take_add, List.drop_drop]
    rw [x1, rc2, tp]
    rfl
  have s7 : sub Tryz.prog 40 (.agg m) 84 = some (.agg _) := sub_mid inf40 agg40 (by rw [tsz40]; omega) ((show (m.drop 84).take _ = (m.drop 84).take 10 by rw [tsz40]).trans hD)
  have s8 : sub Tryz.prog 42 (.agg m) 94 = some (.agg _) := sub_mid inf42 agg42 (by rw [tsz42]; omega) ((show (m.drop 94).take _ = (m.drop 94).take 11 by rw [tsz42]).trans hT)
  have hR : ∀ j < 5, (m.drop (105 + j)).take 1 = ([V.int .i64 c1, .bool c2, .bool c3, .int .i64 c4, .bool c5].drop j).take 1 := fun j hj => (drop_more (m := m) (o := 105) (k := 5) (p := j) (q := 1) (by omega)).symm.trans (by rw [rs])
  have s9 : sub Tryz.prog 3 (.agg m) 105 = some (.int .i64 c1) := sub_cell inf3 agg3 tsz3 (by omega) (hR 0 (by decide)) rfl
  have s10 : sub Tryz.prog 4 (.agg m) 106 = some (.bool c2) := sub_cell inf4 agg4 tsz4 (by omega) (hR 1 (by decide)) rfl
  have s11 : sub Tryz.prog 4 (.agg m) 107 = some (.bool c3) := sub_cell inf4 agg4 tsz4 (by omega) (hR 2 (by decide)) rfl
  have s12 : sub Tryz.prog 3 (.agg m) 108 = some (.int .i64 c4) := sub_cell inf3 agg3 tsz3 (by omega) (hR 3 (by decide)) rfl
  have s13 : sub Tryz.prog 4 (.agg m) 109 = some (.bool c5) := sub_cell inf4 agg4 tsz4 (by omega) (hR 4 (by decide)) rfl
  have v1 := sameI_all me me1
  have v2 := sameI_all ba ba1
  have v3 := sameL_all L L1 L3
  have v4 : bodyW DC 85 [.agg [.sl (strs dS), .sl (ints dB), .bool a1, .bool a2, .bool a3, .int .i64 a4, .int .i64 a5, .int .i64 a6, .int .i64 a7, .int .i64 a8], .agg [.sl (strs dS), .sl (ints dB), .bool a1, .bool a2, .bool a3, .int .i64 a4, .int .i64 a5, .int .i64 a6, .int .i64 a7, .int .i64 a8]] [] = some (.bool true, []) := by
    have u1 := sameT_all dS dS1
    have u2 := sameI_all dB dB1
    (refine gives_iff ?_; refine go_func Tryz.f85 rfl rfl (by simp [Tryz.f85]) ?_; dsimp only [codeL, Tryz.f85, scL, sopsL, guardL, dstAt, loopKey])
    (repeat (first
    | (apply is_ok; (case hw => simp [u1, u2]); (case he => simp [u1, u2]; exact is_rfl))
    | (apply op_no; (case hw => simp [u1, u2]))
    | refine op_nil ?_ | refine next_normal ?_ | refine go_seq ?_ | refine go_region ?_ | refine go_skip ?_ | refine go_block ?_ | refine inb_normal ?_
    | (apply go_yes; (case hc => simp [u1, u2])) | (apply go_no; (case hc => simp [u1, u2]))
    | refine go_exit ?_ | refine next_exit ?_ | refine inb_here ?_ | refine inb_past (by decide) ?_ | refine go_ret ?_ | refine next_ret ?_ | refine inb_ret ?_))
    (apply ends_ok; (case h1 => simp; exact is_rfl); (case h2 => simp; exact is_rfl))
    simp
  have v5 : bodyW DC 86 [.agg [.sl (strs rc), .int .i64 b1, .bool b2, .bool b3, .bool b4, .bool b5, .bool b6, .int .i64 b7, .int .i64 b8, .int .i64 b9, .int .i64 b10], .agg [.sl (strs rc), .int .i64 b1, .bool b2, .bool b3, .bool b4, .bool b5, .bool b6, .int .i64 b7, .int .i64 b8, .int .i64 b9, .int .i64 b10]] [] = some (.bool true, []) := by
    have u1 := sameT_all rc rc1
    (refine gives_iff ?_; refine go_func Tryz.f86 rfl rfl (by simp [Tryz.f86]) ?_; dsimp only [codeL, Tryz.f86, scL, sopsL, guardL, dstAt, loopKey])
    (repeat (first
    | (apply is_ok; (case hw => simp [u1]); (case he => simp [u1]; exact is_rfl))
    | (apply op_no; (case hw => simp [u1]))
    | refine op_nil ?_ | refine next_normal ?_ | refine go_seq ?_ | refine go_region ?_ | refine go_skip ?_ | refine go_block ?_ | refine inb_normal ?_
    | (apply go_yes; (case hc => simp [u1])) | (apply go_no; (case hc => simp [u1]))
    | refine go_exit ?_ | refine next_exit ?_ | refine inb_here ?_ | refine inb_past (by decide) ?_ | refine go_ret ?_ | refine next_ret ?_ | refine inb_ret ?_))
    (apply ends_ok; (case h1 => simp; exact is_rfl); (case h2 => simp; exact is_rfl))
    simp
  have q1 := mch_seal h
  have q2 := mch_refs h
  have q3 := mch_ren h
  have q4 : (m = []) = False := by rw [eq_iff_iff, iff_false]; rintro rfl; cases hl
  clear t1 t2 t3 hc hm hk me2 ba2 L2 L3 dS2 dB2 dk rc2 tp rs hD hT hR h
  (refine gives_iff ?_; refine go_func Tryz.f70 rfl rfl (by simp [Tryz.f70]) ?_; dsimp only [codeL, Tryz.f70, scL, sopsL, guardL, dstAt, loopKey])
  simp only [List.append_eq, List.cons_append, List.nil_append, sopsL, guardL, dstAt]
  (repeat (first
    | (apply is_ok; (case hw => simp [s1, s2, s3, s4, s5, s6, s7, s8, s9, s10, s11, s12, s13, e1, e2, e3, v1, v2, v3, v4, v5, q1, q2, q3, q4, hl, -binV]); (case he => simp [s1, s2, s3, s4, s5, s6, s7, s8, s9, s10, s11, s12, s13, e1, e2, e3, v1, v2, v3, v4, v5, q1, q2, q3, q4, hl, -binV]; exact is_rfl))
    | (apply op_no; (case hw => simp [s1, s2, s3, s4, s5, s6, s7, s8, s9, s10, s11, s12, s13, e1, e2, e3, v1, v2, v3, v4, v5, q1, q2, q3, q4, hl, -binV]))
    | refine op_nil ?_ | refine next_normal ?_ | refine go_seq ?_ | refine go_region ?_ | refine go_skip ?_ | refine go_block ?_ | refine inb_normal ?_
    | (apply go_yes; (case hc => simp [s1, s2, s3, s4, s5, s6, s7, s8, s9, s10, s11, s12, s13, e1, e2, e3, v1, v2, v3, v4, v5, q1, q2, q3, q4, hl, -binV])) | (apply go_no; (case hc => simp [s1, s2, s3, s4, s5, s6, s7, s8, s9, s10, s11, s12, s13, e1, e2, e3, v1, v2, v3, v4, v5, q1, q2, q3, q4, hl, -binV]))
    | refine go_exit ?_ | refine next_exit ?_ | refine inb_here ?_ | refine inb_past (by decide) ?_ | refine go_ret ?_ | refine next_ret ?_ | refine inb_ret ?_))
  (repeat (first
    | (apply is_ok; (case hw => simp [q1, q2, q3, q4]); (case he => simp [q1, q2, q3, q4]; exact is_rfl))
    | (apply op_no; (case hw => simp [q1, q2, q3, q4]))
    | refine op_nil ?_ | refine next_normal ?_ | refine go_seq ?_ | refine go_region ?_ | refine go_skip ?_ | refine go_block ?_ | refine inb_normal ?_
    | (apply go_yes; (case hc => simp [q1, q2, q3, q4])) | (apply go_no; (case hc => simp [q1, q2, q3, q4]))
    | refine go_exit ?_ | refine next_exit ?_ | refine inb_here ?_ | refine inb_past (by decide) ?_ | refine go_ret ?_ | refine next_ret ?_ | refine inb_ret ?_
    | (apply go_unroll; (case hh => simp [q1, q2, q3, q4]; exact is_rfl))))
  (apply ends_ok; (case h1 => simp; exact is_rfl); (case h2 => simp; exact is_rfl))
  simp
end
end Go.Abs

namespace Go.Abs
open Go.Proofs
set_option maxRecDepth 100000
set_option linter.unusedSimpArgs false
set_option linter.unusedVariables false

theorem part_of {pre mid post : List V} {o p q r : Nat} (hp : pre.length = o) (h : p + q ≤ mid.length) (hr : o + p = r) : ((pre ++ (mid ++ post)).drop r).take q = (mid.drop p).take q := by
  subst hr
  rw [← List.drop_drop, List.drop_left' hp, List.drop_append_of_le_length (by omega), List.take_append_of_le_length (by rw [List.length_drop]; omega)]

/-- The cells of a system's machine. -/
def Sys.mach (s : Sys) : List V := s.c0.l ++ (.sl (ints s.mem) :: .sl (ints s.bad) :: (s.c1.l ++ .sl (strs s.S) :: .sl (ints s.B) :: s.c2.l))
theorem Sys.cells_mach (s : Sys) : s.cells = s.mach ++ (prsC s.ps ++ (s.c3.l ++ s.tail1)) := by simp [Sys.cells, Sys.mach]
@[simp] theorem Sys.mach_len (s : Sys) : s.mach.length = 110 := by simp [Sys.mach, s.c0.len, s.c1.len, s.c2.len]
theorem Sys.mach_plain (s : Sys) : ∀ x ∈ s.mach, PlainV x := fun x hx => s.plain x (by rw [s.cells_mach]; simp [hx])
theorem Sys.mach_c0 (s : Sys) {p q r : Nat} (h : p + q ≤ 10) (hr : p = r) : (s.mach.drop r).take q = (s.c0.l.drop p).take q := by
  have := part_of (pre := []) (mid := s.c0.l) (post := .sl (ints s.mem) :: .sl (ints s.bad) :: (s.c1.l ++ .sl (strs s.S) :: .sl (ints s.B) :: s.c2.l)) (o := 0) (p := p) (q := q) (r := r) rfl (by rw [s.c0.len]; exact h) (by omega)
  exact this
theorem Sys.mach_c1 (s : Sys) {p q r : Nat} (h : p + q ≤ 72) (hr : 12 + p = r) : (s.mach.drop r).take q = (s.c1.l.drop p).take q := by
  have := part_of (pre := s.c0.l ++ [.sl (ints s.mem), .sl (ints s.bad)]) (mid := s.c1.l) (post := .sl (strs s.S) :: .sl (ints s.B) :: s.c2.l) (o := 12) (p := p) (q := q) (r := r) (by simp [s.c0.len]) (by rw [s.c1.len]; exact h) hr
  rw [← this]
  simp [Sys.mach]
theorem Sys.mach_c2 (s : Sys) {p q r : Nat} (h : p + q ≤ 24) (hr : 86 + p = r) : (s.mach.drop r).take q = (s.c2.l.drop p).take q := by
  have := part_of (pre := s.c0.l ++ (.sl (ints s.mem) :: .sl (ints s.bad) :: (s.c1.l ++ [.sl (strs s.S), .sl (ints s.B)]))) (mid := s.c2.l) (post := []) (o := 86) (p := p) (q := q) (r := r) (by simp [s.c0.len, s.c1.len]) (by rw [s.c2.len]; exact h) hr
  rw [← this]
  simp [Sys.mach]
theorem Sys.mach_2 (s : Sys) : (s.mach.drop 10).take 1 = [.sl (ints s.mem)] ∧ (s.mach.drop 11).take 1 = [.sl (ints s.bad)] := by
  have := part_of (pre := s.c0.l) (mid := [.sl (ints s.mem), .sl (ints s.bad)]) (post := s.c1.l ++ .sl (strs s.S) :: .sl (ints s.B) :: s.c2.l) (o := 10) (p := 0) (q := 1) (r := 10) s.c0.len (by simp) rfl
  have h2 := part_of (pre := s.c0.l) (mid := [.sl (ints s.mem), .sl (ints s.bad)]) (post := s.c1.l ++ .sl (strs s.S) :: .sl (ints s.B) :: s.c2.l) (o := 10) (p := 1) (q := 1) (r := 11) s.c0.len (by simp) rfl
  exact ⟨this, h2⟩
theorem Sys.mach_d (s : Sys) : (s.mach.drop 84).take 1 = [.sl (strs s.S)] ∧ (s.mach.drop 85).take 1 = [.sl (ints s.B)] := by
  have hl : (s.c0.l ++ (.sl (ints s.mem) :: .sl (ints s.bad) :: s.c1.l)).length = 84 := by simp [s.c0.len, s.c1.len]
  have e : s.mach = (s.c0.l ++ (.sl (ints s.mem) :: .sl (ints s.bad) :: s.c1.l)) ++ ([.sl (strs s.S), .sl (ints s.B)] ++ s.c2.l) := by simp [Sys.mach]
  rw [e]
  exact ⟨part_of (p := 0) (q := 1) hl (by simp) rfl, part_of (p := 1) (q := 1) hl (by simp) rfl⟩

/-- What is compared of a system, but for its memory and its drive. -/
structure Sys.Parts (s : Sys) : Prop where
  cpu : ∃ n, HasT Tryz.prog n 25 ((s.c0.l.drop 0).take 10)
  mmu : ∃ n, HasT Tryz.prog n 32 ((s.c1.l.drop 0).take 67)
  clk : ∃ n, HasT Tryz.prog n 34 ((s.c1.l.drop 67).take 4)
  lns : ∃ L : List V, L.length ≤ maxLen ∧ (s.c1.l.drop 71).take 1 = [.sl L] ∧ ∀ x ∈ L, ∃ n cs, x = .agg cs ∧ HasT Tryz.prog n 158 cs
  dk : ∃ (a b c : Bool) (d e f g h : Int), (s.c2.l.drop 0).take 8 = [.bool a, .bool b, .bool c, .int .i64 d, .int .i64 e, .int .i64 f, .int .i64 g, .int .i64 h]
  rc : ∃ l : List (List UInt8), l.length ≤ maxLen ∧ (s.c2.l.drop 8).take 1 = [.sl (strs l)]
  tp : ∃ (p : Int) (a b c d e : Bool) (f g h i : Int), (s.c2.l.drop 9).take 10 = [.int .i64 p, .bool a, .bool b, .bool c, .bool d, .bool e, .int .i64 f, .int .i64 g, .int .i64 h, .int .i64 i]
  rs : ∃ (p : Int) (a b : Bool) (q : Int) (c : Bool), (s.c2.l.drop 19).take 5 = [.int .i64 p, .bool a, .bool b, .int .i64 q, .bool c]
  prs : ∀ p ∈ s.ps, ∃ n, HasT Tryz.prog n 47 p.cells
  opn : ∃ n, HasT Tryz.prog n 51 ((s.c3.l.drop 0).take 144)
  pip : ∃ n, HasT Tryz.prog n 54 ((s.c3.l.drop 144).take 24)
  tty : ∃ L : List V, (s.c3.l.drop 168).take 1 = [.sl L]
  nxt : ∃ (a b : Int) (c : Bool), (s.c4.l.drop 0).take 3 = [.int .i64 a, .int .i64 b, .bool c]

theorem Sys.mchP (s : Sys) (h : s.Parts) (h1 : s.mem.length ≤ maxLen) (h2 : s.bad.length ≤ maxLen) (h3 : s.S.length ≤ maxLen) (h4 : s.B.length ≤ maxLen) : MchP s.mach := by
  refine ⟨s.mach_len, s.mach_plain, ?_, ⟨_, h1, s.mach_2.1⟩, ⟨_, h2, s.mach_2.2⟩, ?_, ?_, ?_, ⟨_, h3, s.mach_d.1⟩, ⟨_, h4, s.mach_d.2⟩, ?_, ?_, ?_, ?_⟩
  · rw [s.mach_c0 (p := 0) (by decide) rfl]; exact h.cpu
  · rw [s.mach_c1 (p := 0) (by decide) rfl]; exact h.mmu
  · rw [s.mach_c1 (p := 67) (by decide) rfl]; exact h.clk
  · rw [s.mach_c1 (p := 71) (by decide) rfl]; exact h.lns
  · rw [s.mach_c2 (p := 0) (by decide) rfl]; exact h.dk
  · rw [s.mach_c2 (p := 8) (by decide) rfl]; exact h.rc
  · rw [s.mach_c2 (p := 9) (by decide) rfl]; exact h.tp
  · rw [s.mach_c2 (p := 19) (by decide) rfl]; exact h.rs

/-- Single cells by their types. -/
theorem cellI {n : Nat} {cs : List V} (h : HasT Tryz.prog n 3 cs) : ∃ a, cs = [V.int .i64 a] := by
  obtain ⟨a, e, _⟩ := hasT_int Tryz.underlying3 h
  exact ⟨a, e⟩
theorem cellB {n : Nat} {cs : List V} (h : HasT Tryz.prog n 4 cs) : ∃ a, cs = [V.bool a] := by
  obtain ⟨a, e⟩ := hasT_bool Tryz.underlying4 h
  exact ⟨a, e⟩
theorem take_cons {cs : List V} {o k : Nat} {x : V} {r : List V} (h1 : (cs.drop o).take 1 = [x]) (h2 : (cs.drop (o + 1)).take k = r) : (cs.drop o).take (k + 1) = x :: r := by
  rw [Nat.add_comm k 1, List.take_add, List.drop_drop, h1, h2]
  rfl

theorem Sys.parts_of {n : Nat} (s : Sys) (h : HasT Tryz.prog n 59 s.cells) : s.Parts := by
  obtain ⟨m, rfl, h3, h4⟩ := hasT_struct Tryz.underlying59 h
  have fM := h4 0 _ rfl
  have fP := h4 1 _ rfl
  have fO := h4 2 _ rfl
  have fQ := h4 3 _ rfl
  have fT := h4 4 _ rfl
  have f7 := h4 7 _ rfl
  have f8 := h4 8 _ rfl
  have f9 := h4 9 _ rfl
  have hM : HasT Tryz.prog m 44 ((s.cells.drop 0).take 110) := fM
  rw [show (s.cells.drop 0).take 110 = s.mach by rw [s.cells_mach, List.drop_zero, List.take_left' s.mach_len]] at hM
  have eO : (s.cells.drop 342).take 144 = (s.c3.l.drop 0).take 144 := by
    rw [s.cells_mach, ← List.append_assoc]
    exact part_of (p := 0) (by simp) (by rw [s.c3.len]; decide) rfl
  have eQ : (s.cells.drop 486).take 24 = (s.c3.l.drop 144).take 24 := by
    rw [s.cells_mach, ← List.append_assoc]
    exact part_of (o := 342) (p := 144) (by simp) (by rw [s.c3.len]; decide) rfl
  have eT : (s.cells.drop 510).take 1 = (s.c3.l.drop 168).take 1 := by
    rw [s.cells_mach, ← List.append_assoc]
    exact part_of (o := 342) (p := 168) (by simp) (by rw [s.c3.len]; decide) rfl
  have e4 : ∀ p q, p + q ≤ 3 → (s.cells.drop (515 + p)).take q = (s.c4.l.drop p).take q := fun p q hq => by
    have e : s.cells = (s.p511 ++ [.int .i64 s.sw.1, .int .i64 s.sw.2, .int .i64 s.co.1, .int .i64 s.co.2]) ++ (s.c4.l ++ []) := by rw [s.at511]; simp
    rw [e]
    exact part_of (p := p) (by simp [s.p511_len]) (by rw [s.c4.len]; exact hq) rfl
  have gO : HasT Tryz.prog m 51 ((s.cells.drop 342).take 144) := fO
  have gQ : HasT Tryz.prog m 54 ((s.cells.drop 486).take 24) := fQ
  have gT : HasT Tryz.prog m 55 ((s.cells.drop 510).take 1) := fT
  have g7 : HasT Tryz.prog m 3 ((s.cells.drop (515 + 0)).take 1) := f7
  have g8 : HasT Tryz.prog m 3 ((s.cells.drop (515 + 1)).take 1) := f8
  have g9 : HasT Tryz.prog m 4 ((s.cells.drop (515 + 2)).take 1) := f9
  rw [eO] at gO
  rw [eQ] at gQ
  rw [eT] at gT
  rw [e4 0 1 (by decide)] at g7
  rw [e4 1 1 (by decide)] at g8
  rw [e4 2 1 (by decide)] at g9
  obtain ⟨k, rfl, _, hF⟩ := hasT_struct Tryz.underlying44 hM
  have a0 := hF 0 _ rfl
  have a3 := hF 3 _ rfl
  have a4 := hF 4 _ rfl
  have a5 := hF 5 _ rfl
  have a6 := hF 6 _ rfl
  have a7 := hF 7 _ rfl
  have a8 := hF 8 _ rfl
  have a9 := hF 9 _ rfl
  have a10 := hF 10 _ rfl
  have a11 := hF 11 _ rfl
  have a12 := hF 12 _ rfl
  have b0 : HasT Tryz.prog k 25 ((s.mach.drop 0).take 10) := a0
  have b3 : HasT Tryz.prog k 32 ((s.mach.drop 12).take 67) := a3
  have b4 : HasT Tryz.prog k 34 ((s.mach.drop 79).take 4) := a4
  have b5 : HasT Tryz.prog k 35 ((s.mach.drop 83).take 1) := a5
  have b6 : HasT Tryz.prog k 40 ((s.mach.drop 84).take 10) := a6
  have b7 : HasT Tryz.prog k 42 ((s.mach.drop 94).take 11) := a7
  have b8 : HasT Tryz.prog k 3 ((s.mach.drop 105).take 1) := a8
  have b9 : HasT Tryz.prog k 4 ((s.mach.drop 106).take 1) := a9
  have b10 : HasT Tryz.prog k 4 ((s.mach.drop 107).take 1) := a10
  have b11 : HasT Tryz.prog k 3 ((s.mach.drop 108).take 1) := a11
  have b12 : HasT Tryz.prog k 4 ((s.mach.drop 109).take 1) := a12
  rw [s.mach_c0 (p := 0) (by decide) rfl] at b0
  rw [s.mach_c1 (p := 0) (by decide) rfl] at b3
  rw [s.mach_c1 (p := 67) (by decide) rfl] at b4
  rw [s.mach_c1 (p := 71) (by decide) rfl] at b5
  rw [s.mach_c2 (p := 19) (by decide) rfl] at b8
  rw [s.mach_c2 (p := 20) (by decide) rfl] at b9
  rw [s.mach_c2 (p := 21) (by decide) rfl] at b10
  rw [s.mach_c2 (p := 22) (by decide) rfl] at b11
  rw [s.mach_c2 (p := 23) (by decide) rfl] at b12
  obtain ⟨kd, rfl, _, hD⟩ := hasT_struct Tryz.underlying40 b6
  have d1 := hD 1 _ rfl
  have d2 := hD 2 _ rfl
  have d3 := hD 3 _ rfl
  have d4 := hD 4 _ rfl
  have d5 := hD 5 _ rfl
  have d6 := hD 6 _ rfl
  have d7 := hD 7 _ rfl
  have d8 := hD 8 _ rfl
  have qd : ∀ p, 2 ≤ p → p < 10 → ((((s.mach.drop 84).take 10).drop p).take 1) = (s.c2.l.drop (p - 2)).take 1 := fun p h0 hp => by
    rw [drop_more (by omega)]
    exact s.mach_c2 (p := p - 2) (by omega) (by omega)
  have c1 : HasT Tryz.prog kd 4 ((((s.mach.drop 84).take 10).drop 2).take 1) := d1
  have c2 : HasT Tryz.prog kd 4 ((((s.mach.drop 84).take 10).drop 3).take 1) := d2
  have c3 : HasT Tryz.prog kd 4 ((((s.mach.drop 84).take 10).drop 4).take 1) := d3
  have c4 : HasT Tryz.prog kd 3 ((((s.mach.drop 84).take 10).drop 5).take 1) := d4
  have c5 : HasT Tryz.prog kd 3 ((((s.mach.drop 84).take 10).drop 6).take 1) := d5
  have c6 : HasT Tryz.prog kd 3 ((((s.mach.drop 84).take 10).drop 7).take 1) := d6
  have c7 : HasT Tryz.prog kd 3 ((((s.mach.drop 84).take 10).drop 8).take 1) := d7
  have c8 : HasT Tryz.prog kd 3 ((((s.mach.drop 84).take 10).drop 9).take 1) := d8
  rw [qd _ (by decide) (by decide)] at c1 c2 c3 c4 c5 c6 c7 c8
  obtain ⟨kt, hkt, _, hT⟩ := hasT_struct Tryz.underlying42 b7
  obtain rfl : kt = kd := by omega
  have t0 := hT 0 _ rfl
  have t1 := hT 1 _ rfl
  have t2 := hT 2 _ rfl
  have t3 := hT 3 _ rfl
  have t4 := hT 4 _ rfl
  have t5 := hT 5 _ rfl
  have t6 := hT 6 _ rfl
  have t7 := hT 7 _ rfl
  have t8 := hT 8 _ rfl
  have t9 := hT 9 _ rfl
  have t10 := hT 10 _ rfl
  have qt : ∀ p, p < 11 → ((((s.mach.drop 94).take 11).drop p).take 1) = (s.c2.l.drop (8 + p)).take 1 := fun p hp => by
    rw [drop_more (by omega)]
    exact s.mach_c2 (p := 8 + p) (by omega) (by omega)
  have u0 : HasT Tryz.prog kt 36 ((((s.mach.drop 94).take 11).drop 0).take 1) := t0
  have u1 : HasT Tryz.prog kt 3 ((((s.mach.drop 94).take 11).drop 1).take 1) := t1
  have u2 : HasT Tryz.prog kt 4 ((((s.mach.drop 94).take 11).drop 2).take 1) := t2
  have u3 : HasT Tryz.prog kt 4 ((((s.mach.drop 94).take 11).drop 3).take 1) := t3
  have u4 : HasT Tryz.prog kt 4 ((((s.mach.drop 94).take 11).drop 4).take 1) := t4
  have u5 : HasT Tryz.prog kt 4 ((((s.mach.drop 94).take 11).drop 5).take 1) := t5
  have u6 : HasT Tryz.prog kt 4 ((((s.mach.drop 94).take 11).drop 6).take 1) := t6
  have u7 : HasT Tryz.prog kt 3 ((((s.mach.drop 94).take 11).drop 7).take 1) := t7
  have u8 : HasT Tryz.prog kt 3 ((((s.mach.drop 94).take 11).drop 8).take 1) := t8
  have u9 : HasT Tryz.prog kt 3 ((((s.mach.drop 94).take 11).drop 9).take 1) := t9
  have u10 : HasT Tryz.prog kt 3 ((((s.mach.drop 94).take 11).drop 10).take 1) := t10
  rw [qt _ (by decide)] at u0 u1 u2 u3 u4 u5 u6 u7 u8 u9 u10
  have cL : ∃ L : List V, L.length ≤ maxLen ∧ (s.c1.l.drop 71).take 1 = [.sl L] ∧ ∀ x ∈ L, ∃ n cs, x = .agg cs ∧ HasT Tryz.prog n 158 cs := by
    obtain ⟨q, es, hq, q3, q4, q5⟩ := hasT_slice Tryz.underlying35 (Go.Abs.cells_ne (n := 9) (by kernel_rfl) (by decide)) b5
    refine ⟨es, q4, q3, fun x hx => ?_⟩
    obtain ⟨h6, h7⟩ := q5 x hx
    rw [show aggT Tryz.prog 158 = some true by kernel_rfl] at h6
    obtain ⟨cs, rfl⟩ := cells_some (Option.some.inj h6).symm
    exact ⟨_, cs, rfl, h7⟩
  have cT : ∃ L : List V, (s.c3.l.drop 168).take 1 = [.sl L] := by
    obtain ⟨q, es, hq, q3, q4, q5⟩ := hasT_slice Tryz.underlying55 (Go.Abs.cells_ne (n := 4) (by kernel_rfl) (by decide)) gT
    exact ⟨es, q3⟩
  obtain ⟨rl, e0, rl1, _⟩ := hasT_strs Tryz.underlying36 (Go.Abs.cells_ne (n := 1) (by kernel_rfl) (by decide)) Tryz.underlying9 u0
  obtain ⟨_, x1⟩ := cellB c1
  obtain ⟨_, x2⟩ := cellB c2
  obtain ⟨_, x3⟩ := cellB c3
  obtain ⟨_, x4⟩ := cellI c4
  obtain ⟨_, x5⟩ := cellI c5
  obtain ⟨_, x6⟩ := cellI c6
  obtain ⟨_, x7⟩ := cellI c7
  obtain ⟨_, x8⟩ := cellI c8
  obtain ⟨_, y1⟩ := cellI u1
  obtain ⟨_, y2⟩ := cellB u2
  obtain ⟨_, y3⟩ := cellB u3
  obtain ⟨_, y4⟩ := cellB u4
  obtain ⟨_, y5⟩ := cellB u5
  obtain ⟨_, y6⟩ := cellB u6
  obtain ⟨_, y7⟩ := cellI u7
  obtain ⟨_, y8⟩ := cellI u8
  obtain ⟨_, y9⟩ := cellI u9
  obtain ⟨_, y10⟩ := cellI u10
  obtain ⟨_, z1⟩ := cellI b8
  obtain ⟨_, z2⟩ := cellB b9
  obtain ⟨_, z3⟩ := cellB b10
  obtain ⟨_, z4⟩ := cellI b11
  obtain ⟨_, z5⟩ := cellB b12
  obtain ⟨_, w1⟩ := cellI g7
  obtain ⟨_, w2⟩ := cellI g8
  obtain ⟨_, w3⟩ := cellB g9
  obtain ⟨m4, hm4, _, hA⟩ := hasT_array Tryz.underlying48 fP
  refine ⟨⟨_, b0⟩, ⟨_, b3⟩, ⟨_, b4⟩, cL, ?_, ⟨rl, rl1, e0⟩, ?_, ?_, fun p hp => ?_, ⟨_, gO⟩, ⟨_, gQ⟩, cT, ?_⟩
  · exact ⟨_, _, _, _, _, _, _, _, take_cons x1 (take_cons x2 (take_cons x3 (take_cons x4 (take_cons x5 (take_cons x6 (take_cons x7 x8))))))⟩
  · exact ⟨_, _, _, _, _, _, _, _, _, _, take_cons y1 (take_cons y2 (take_cons y3 (take_cons y4 (take_cons y5 (take_cons y6 (take_cons y7 (take_cons y8 (take_cons y9 y10))))))))⟩
  · exact ⟨_, _, _, _, _, take_cons z1 (take_cons z2 (take_cons z3 (take_cons z4 z5)))⟩
  · obtain ⟨j, hj, rfl⟩ := List.mem_iff_getElem.1 hp
    have hps := s.hps
    have := hA j (by omega)
    have e1 : (s.cells.drop 110).take 232 = prsC s.ps := by
      rw [s.at110, List.drop_left' s.p110_len, List.take_left' (s.prs_len)]
    obtain ⟨q1, q2⟩ := prsC_at (List.getElem?_eq_getElem hj)
    have e2 : ((prsC s.ps).drop (j * 29)).take 29 = s.ps[j].cells := by
      rw [q1, List.drop_left' q2, List.take_left' s.ps[j].cells_len]
    have h5 : HasT Tryz.prog m4 47 ((((s.cells.drop 110).take 232).drop (j * 29)).take 29) := this
    rw [e1, e2] at h5
    exact ⟨m4, h5⟩
  · exact ⟨_, _, _, take_cons w1 (take_cons w2 w3)⟩

theorem sys_of3 {x : V} (h : ArgT Tryz.prog 59 x) : ∃ s : Sys, x = .agg s.cells ∧ s.Wf ∧ s.Parts := by
  obtain ⟨s, rfl, hw⟩ := sys_of h
  obtain ⟨n, h1, _⟩ := h
  exact ⟨s, rfl, hw, s.parts_of h1⟩
end Go.Abs

namespace Go.Abs
open Go.Proofs
set_option maxRecDepth 100000
set_option linter.unusedSimpArgs false
set_option linter.unusedVariables false

/-- The cells of a system of zeros, but for its seven slices. -/
def zO (a b c d e f g : V) : List V :=
  [(.int .i64 0), (.int .i64 0), (.int .i64 0), (.int .i64 0), (.int .i64 0), (.int .i64 0), (.int .i64 0), (.int .i64 0), (.int .i64 0), 
   (.int .i64 0), a, b, (.bool false), (.int .i64 0), (.int .i64 0), (.int .i64 0), (.bool false), (.int .i64 0), (.int .i64 0), (.int .i64 0), 
   (.bool false), (.int .i64 0), (.int .i64 0), (.int .i64 0), (.bool false), (.int .i64 0), (.int .i64 0), (.int .i64 0), (.bool false), 
   (.int .i64 0), (.int .i64 0), (.int .i64 0), (.bool false), (.int .i64 0), (.int .i64 0), (.int .i64 0), (.bool false), (.int .i64 0), 
   (.int .i64 0), (.int .i64 0), (.bool false), (.int .i64 0), (.int .i64 0), (.int .i64 0), (.bool false), (.int .i64 0), (.int .i64 0), 
   (.int .i64 0), (.bool false), (.int .i64 0), (.int .i64 0), (.int .i64 0), (.bool false), (.int .i64 0), (.int .i64 0), (.int .i64 0), 
   (.bool false), (.int .i64 0), (.int .i64 0), (.int .i64 0), (.bool false), (.int .i64 0), (.int .i64 0), (.int .i64 0), (.bool false), 
   (.int .i64 0), (.int .i64 0), (.int .i64 0), (.bool false), (.int .i64 0), (.int .i64 0), (.int .i64 0), (.bool false), (.int .i64 0), 
   (.int .i64 0), (.int .i64 0), (.bool false), (.int .i64 0), (.int .i64 0), (.bool false), (.bool false), (.int .i64 0), (.int .i64 0), c, d, e, 
   (.bool false), (.bool false), (.bool false), (.int .i64 0), (.int .i64 0), (.int .i64 0), (.int .i64 0), (.int .i64 0), f, (.int .i64 0), 
   (.bool false), (.bool false), (.bool false), (.bool false), (.bool false), (.int .i64 0), (.int .i64 0), (.int .i64 0), (.int .i64 0), 
   (.int .i64 0), (.bool false), (.bool false), (.int .i64 0), (.bool false), (.int .i64 0), (.int .i64 0), (.int .i64 0), (.int .i64 0), 
   (.int .i64 0), (.int .i64 0), (.int .i64 0), (.int .i64 0), (.int .i64 0), (.int .i64 0), (.int .i64 0), (.int .i64 0), (.int .i64 0), 
   (.int .i64 0), (.int .i64 0), (.bool false), (.int .i64 0), (.int .i64 0), (.int .i64 0), (.int .i64 0), (.int .i64 0), (.int .i64 0), 
   (.int .i64 0), (.int .i64 0), (.int .i64 0), (.int .i64 0), (.int .i64 0), (.int .i64 0), (.int .i64 0), (.int .i64 0), (.int .i64 0), 
   (.int .i64 0), (.int .i64 0), (.int .i64 0), (.int .i64 0), (.int .i64 0), (.int .i64 0), (.int .i64 0), (.int .i64 0), (.int .i64 0), 
   (.int .i64 0), (.int .i64 0), (.int .i64 0), (.int .i64 0), (.bool false), (.int .i64 0), (.int .i64 0), (.int .i64 0), (.int .i64 0), 
   (.int .i64 0), (.int .i64 0), (.int .i64 0), (.int .i64 0), (.int .i64 0), (.int .i64 0), (.int .i64 0), (.int .i64 0), (.int .i64 0), 
   (.int .i64 0), (.int .i64 0), (.int .i64 0), (.int .i64 0), (.int .i64 0), (.int .i64 0), (.int .i64 0), (.int .i64 0), (.int .i64 0), 
   (.int .i64 0), (.int .i64 0), (.int .i64 0), (.int .i64 0), (.int .i64 0), (.int .i64 0), (.bool false), (.int .i64 0), (.int .i64 0), 
   (.int .i64 0), (.int .i64 0), (.int .i64 0), (.int .i64 0), (.int .i64 0), (.int .i64 0), (.int .i64 0), (.int .i64 0), (.int .i64 0), 
   (.int .i64 0), (.int .i64 0), (.int .i64 0), (.int .i64 0), (.int .i64 0), (.int .i64 0), (.int .i64 0), (.int .i64 0), (.int .i64 0), 
   (.int .i64 0), (.int .i64 0), (.int .i64 0), (.int .i64 0), (.int .i64 0), (.int .i64 0), (.int .i64 0), (.int .i64 0), (.bool false), 
   (.int .i64 0), (.int .i64 0), (.int .i64 0), (.int .i64 0), (.int .i64 0), (.int .i64 0), (.int .i64 0), (.int .i64 0), (.int .i64 0), 
   (.int .i64 0), (.int .i64 0), (.int .i64 0), (.int .i64 0), (.int .i64 0), (.int .i64 0), (.int .i64 0), (.int .i64 0), (.int .i64 0), 
   (.int .i64 0), (.int .i64 0), (.int .i64 0), (.int .i64 0), (.int .i64 0), (.int .i64 0), (.int .i64 0), (.int .i64 0), (.int .i64 0), 
   (.int .i64 0), (.bool false), (.int .i64 0), (.int .i64 0), (.int .i64 0), (.int .i64 0), (.int .i64 0), (.int .i64 0), (.int .i64 0), 
   (.int .i64 0), (.int .i64 0), (.int .i64 0), (.int .i64 0), (.int .i64 0), (.int .i64 0), (.int .i64 0), (.int .i64 0), (.int .i64 0), 
   (.int .i64 0), (.int .i64 0), (.int .i64 0), (.int .i64 0), (.int .i64 0), (.int .i64 0), (.int .i64 0), (.int .i64 0), (.int .i64 0), 
   (.int .i64 0), (.int .i64 0), (.int .i64 0), (.bool false), (.int .i64 0), (.int .i64 0), (.int .i64 0), (.int .i64 0), (.int .i64 0), 
   (.int .i64 0), (.int .i64 0), (.int .i64 0), (.int .i64 0), (.int .i64 0), (.int .i64 0), (.int .i64 0), (.int .i64 0), (.int .i64 0), 
   (.int .i64 0), (.int .i64 0), (.int .i64 0), (.int .i64 0), (.int .i64 0), (.int .i64 0), (.int .i64 0), (.int .i64 0), (.int .i64 0), 
   (.int .i64 0), (.int .i64 0), (.int .i64 0), (.int .i64 0), (.int .i64 0), (.bool false), (.int .i64 0), (.int .i64 0), (.int .i64 0), 
   (.int .i64 0), (.int .i64 0), (.int .i64 0), (.int .i64 0), (.int .i64 0), (.int .i64 0), (.int .i64 0), (.int .i64 0), (.int .i64 0), 
   (.int .i64 0), (.int .i64 0), (.int .i64 0), (.int .i64 0), (.int .i64 0), (.int .i64 0), (.int .i64 0), (.int .i64 0), (.int .i64 0), 
   (.int .i64 0), (.int .i64 0), (.int .i64 0), (.int .i64 0), (.int .i64 0), (.int .i64 0), (.int .i64 0), (.bool false), (.int .i64 0), 
   (.int .i64 0), (.int .i64 0), (.int .i64 0), (.int .i64 0), (.int .i64 0), (.int .i64 0), (.int .i64 0), (.int .i64 0), (.int .i64 0), 
   (.int .i64 0), (.int .i64 0), (.int .i64 0), (.int .i64 0), (.int .i64 0), (.bool false), (.bool false), (.int .i64 0), (.int .i64 0), 
   (.int .i64 0), (.int .i64 0), (.bool false), (.bool false), (.int .i64 0), (.int .i64 0), (.int .i64 0), (.int .i64 0), (.bool false), 
   (.bool false), (.int .i64 0), (.int .i64 0), (.int .i64 0), (.int .i64 0), (.bool false), (.bool false), (.int .i64 0), (.int .i64 0), 
   (.int .i64 0), (.int .i64 0), (.bool false), (.bool false), (.int .i64 0), (.int .i64 0), (.int .i64 0), (.int .i64 0), (.bool false), 
   (.bool false), (.int .i64 0), (.int .i64 0), (.int .i64 0), (.int .i64 0), (.bool false), (.bool false), (.int .i64 0), (.int .i64 0), 
   (.int .i64 0), (.int .i64 0), (.bool false), (.bool false), (.int .i64 0), (.int .i64 0), (.int .i64 0), (.int .i64 0), (.bool false), 
   (.bool false), (.int .i64 0), (.int .i64 0), (.int .i64 0), (.int .i64 0), (.bool false), (.bool false), (.int .i64 0), (.int .i64 0), 
   (.int .i64 0), (.int .i64 0), (.bool false), (.bool false), (.int .i64 0), (.int .i64 0), (.int .i64 0), (.int .i64 0), (.bool false), 
   (.bool false), (.int .i64 0), (.int .i64 0), (.int .i64 0), (.int .i64 0), (.bool false), (.bool false), (.int .i64 0), (.int .i64 0), 
   (.int .i64 0), (.int .i64 0), (.bool false), (.bool false), (.int .i64 0), (.int .i64 0), (.int .i64 0), (.int .i64 0), (.bool false), 
   (.bool false), (.int .i64 0), (.int .i64 0), (.int .i64 0), (.int .i64 0), (.bool false), (.bool false), (.int .i64 0), (.int .i64 0), 
   (.int .i64 0), (.int .i64 0), (.bool false), (.bool false), (.int .i64 0), (.int .i64 0), (.int .i64 0), (.int .i64 0), (.bool false), 
   (.bool false), (.int .i64 0), (.int .i64 0), (.int .i64 0), (.int .i64 0), (.bool false), (.bool false), (.int .i64 0), (.int .i64 0), 
   (.int .i64 0), (.int .i64 0), (.bool false), (.bool false), (.int .i64 0), (.int .i64 0), (.int .i64 0), (.int .i64 0), (.bool false), 
   (.bool false), (.int .i64 0), (.int .i64 0), (.int .i64 0), (.int .i64 0), (.bool false), (.bool false), (.int .i64 0), (.int .i64 0), 
   (.int .i64 0), (.int .i64 0), (.bool false), (.bool false), (.int .i64 0), (.int .i64 0), (.int .i64 0), (.int .i64 0), (.bool false), 
   (.bool false), (.int .i64 0), (.int .i64 0), (.str []), (.int .i64 0), (.int .i64 0), (.str []), (.int .i64 0), (.int .i64 0), (.str []), 
   (.int .i64 0), (.int .i64 0), (.str []), (.int .i64 0), (.int .i64 0), (.str []), (.int .i64 0), (.int .i64 0), (.str []), (.int .i64 0), 
   (.int .i64 0), (.str []), (.int .i64 0), (.int .i64 0), (.str []), (.int .i64 0), (.int .i64 0), g, (.int .i64 0), (.int .i64 0), (.int .i64 0), 
   (.int .i64 0), (.int .i64 0), (.int .i64 0), (.bool false)]
section
variable (a b c d e f g : V)
@[simp] theorem zO_len : (zO a b c d e f g).length = 518 := rfl
@[simp] theorem zO_ne : (zO a b c d e f g = []) = False := by
  rw [eq_iff_iff, iff_false]; intro h; have := zO_len a b c d e f g; rw [h] at this; cases this
@[simp] theorem zO_emp : (zO a b c d e f g).isEmpty = false := rfl
@[simp] theorem zO_refs : refsL (zO a b c d e f g) = refs a ++ (refs b ++ (refs c ++ (refs d ++ (refs e ++ (refs f ++ (refs g ++ [])))))) := rfl
@[simp] theorem zO_ren (ρ : Nat → Option Nat) : renL ρ (zO a b c d e f g) = zO (ren ρ a) (ren ρ b) (ren ρ c) (ren ρ d) (ren ρ e) (ren ρ f) (ren ρ g) := rfl
end
/-- The cells of a system of zeros. -/
abbrev zN : List V := zO .nils .nils .nils .nils .nils .nils .nils
theorem zero_sys : zeroV Tryz.prog 59 = some (.agg zN) := by kernel_rfl

def ownC : List Nat → List V → Nat → List V
  | s :: ss, .nils :: cs, k => if s = 0 then .nils :: ownC ss cs k else .own k 0 0 0 :: ownC ss cs (k + 1)
  | s :: ss, c :: cs, k => c :: ownC ss cs k
  | _, cs, k => cs
def ownN : List Nat → List V → Nat
  | s :: ss, .nils :: cs => if s = 0 then ownN ss cs else ownN ss cs + 1
  | s :: ss, c :: cs => ownN ss cs
  | _, cs => 0
def ownB : List Nat → List V → Heap
  | s :: ss, .nils :: cs => if s = 0 then ownB ss cs else .dat true s [] :: ownB ss cs
  | s :: ss, c :: cs => ownB ss cs
  | _, cs => []
theorem ownifyL_all : ∀ (ss : List Nat) (cs : List V) (H : Heap), ownifyL ss cs H = (ownC ss cs H.length, H ++ ownB ss cs)
  | [], cs, H => by cases cs <;> simp [ownC, ownB]
  | s :: ss, [], H => by simp [ownC, ownB]
  | s :: ss, c :: cs, H => by
    rw [ownifyL_cons]
    cases c
    case nils =>
      by_cases h : s = 0
      · simp [ownify, h, ownC, ownB, ownifyL_all ss cs]
      · simp [ownify, h, ownC, ownB, ownifyL_all ss cs]
    all_goals simp [ownify, ownC, ownB, ownifyL_all ss cs]
theorem own_sys (H : Heap) : ownifyL (slotSizes Tryz.prog 59) zN H = (zO (.own (H.length + 0) 0 0 0) (.own (H.length + 1) 0 0 0) (.own (H.length + 2) 0 0 0) (.own (H.length + 3) 0 0 0) (.own (H.length + 4) 0 0 0) (.own (H.length + 5) 0 0 0) (.own (H.length + 6) 0 0 0), H ++ [.dat true 1 [], .dat true 1 [], .dat true 9 [], .dat true 1 [], .dat true 1 [], .dat true 1 [], .dat true 4 []]) := by
  rw [ownifyL_all]
  generalize H.length = k
  have h1 : ownC (slotSizes Tryz.prog 59) zN k = zO (.own (k + 0) 0 0 0) (.own (k + 1) 0 0 0) (.own (k + 2) 0 0 0) (.own (k + 3) 0 0 0) (.own (k + 4) 0 0 0) (.own (k + 5) 0 0 0) (.own (k + 6) 0 0 0) := by kernel_rfl
  have h2 : ownB (slotSizes Tryz.prog 59) zN = [.dat true 1 [], .dat true 1 [], .dat true 9 [], .dat true 1 [], .dat true 1 [], .dat true 1 [], .dat true 4 []] := by kernel_rfl
  rw [h1, h2]
/-- A new system. -/
@[simp high] theorem alloc_sys {call : CallV} {env : Env} {H : Heap} {ty : Nat} : ev1 Tryz.prog call env H (.alloc 59) ty = some (.ptr (H.length + 7) 1 0 0, H ++ [.dat true 1 [], .dat true 1 [], .dat true 9 [], .dat true 1 [], .dat true 1 [], .dat true 1 [], .dat true 4 [], .box (.agg (zO (.own (H.length + 0) 0 0 0) (.own (H.length + 1) 0 0 0) (.own (H.length + 2) 0 0 0) (.own (H.length + 3) 0 0 0) (.own (H.length + 4) 0 0 0) (.own (H.length + 5) 0 0 0) (.own (H.length + 6) 0 0 0)))]) := by
  rw [ev1_alloc, zero_sys]
  simp only [zO_emp, own_sys]
  rw [show bldE Tryz.prog 59 zN = none from rfl]
  simp
theorem build_sys0 : buildV Tryz.prog 59 [] = some (.agg zN) := by
  unfold buildV
  rw [zero_sys, Tryz.underlying59]
  simp only
  rw [show placesOf Tryz.prog _ = some _ from rfl]
  rfl
@[simp high] theorem build_sys {call : CallV} {env : Env} {H : Heap} {ty : Nat} : ev1 Tryz.prog call env H (.build 59 ⟨[]⟩) ty = some (.agg zN, H) := by
  rw [ev1_build, List.map_nil, build_sys0]
  rfl
end Go.Abs

namespace Go.Abs
open Go.Proofs
set_option maxRecDepth 100000
set_option linter.unusedSimpArgs false
set_option linter.unusedVariables false

/-- What Fit returns. -/
def fitN (l : List Ex) (w : Ex) (k : Int) : Option Int := if k < 1 ∨ w.2 < k then none else leastR l w k (posC l w)
def fitV (l : List Ex) (w : Ex) (k : Int) : V := match fitN l w k with | some n => .tuple [.int .i64 n, .bool true] | none => .tuple [.int .i64 0, .bool false]
theorem Fit_eq' (l : List Ex) (hl : l.length ≤ 100) (hb : ∀ y ∈ l, UsuP y) (w : Ex) (hw : UsuP w) (k : Int) : bodyW DC 21 [.sl (l.map exV), .agg [.int .i64 w.1, .int .i64 w.2], .int .i64 k] [] = some (fitV l w k, []) := by
  rw [Fit_eq l hl hb w hw k]
  unfold fitV fitN
  split <;> rfl

/-- The place that Fit finds, told without candidates. -/
theorem fit_least {l : List Ex} {w : Ex} {k : Int} (hk : 0 < k) : (∀ n, fitN l w k = some n → roomP l w k n ∧ ∀ m, roomP l w k m → n ≤ m) ∧ (fitN l w k = none → ∀ m, ¬ roomP l w k m) := by
  unfold fitN
  by_cases h : k < 1 ∨ w.2 < k
  · rw [if_pos h]
    refine ⟨fun n hn => (by cases hn), fun _ m hm => ?_⟩
    have h1 := hm.2.1
    have h2 := hm.2.2
    omega
  rw [if_neg h]
  constructor
  · intro n hn
    obtain ⟨c1, c2, c3⟩ := find_sorted_min (sorted_pair _) hn
    refine ⟨by simpa using c2, fun m hm => ?_⟩
    obtain ⟨q, q1, q2, q3⟩ := room_cand hk hm
    have := c3 q (sorted_mem.2 (cand_pos.1 q1)) (by simpa using q3)
    omega
  · intro hn m hm
    obtain ⟨q, q1, q2, q3⟩ := room_cand hk hm
    unfold leastR at hn
    rw [List.find?_eq_none] at hn
    exact absurd (by simpa using q3) (hn q (sorted_mem.2 (cand_pos.1 q1)))

end Go.Abs

namespace Go.Abs
open Go.Proofs
set_option maxRecDepth 100000
set_option linter.unusedSimpArgs false
set_option linter.unusedVariables false

/-- The sectors of an image. -/
def secN (n : Int) : Int := if n < 1 then 0 else n / 2 + n % 2
theorem Sectors_eq (n : Int) (hn : -9223372036854775808 ≤ n ∧ n ≤ 9223372036854775807) : bodyW DC 20 [.int .i64 n] [] = some (.int .i64 (secN n), []) := by
  unfold secN
  by_cases h1 : n < 1
  · rw [if_pos h1]
    have e : max n 0 = 0 := by omega
    (refine gives_iff ?_; refine go_func Tryz.f20 rfl rfl (by simp [Tryz.f20]) ?_; dsimp only [codeL, Tryz.f20, scL, sopsL, guardL, dstAt, loopKey])
    (repeat (first
    | (apply is_ok; (case hw => simp [e]); (case he => simp [e]; exact is_rfl))
    | (apply op_no; (case hw => simp [e]))
    | refine op_nil ?_ | refine next_normal ?_ | refine go_seq ?_ | refine go_region ?_ | refine go_skip ?_ | refine go_block ?_ | refine inb_normal ?_
    | (apply go_yes; (case hc => simp [e])) | (apply go_no; (case hc => simp [e]))
    | refine go_exit ?_ | refine next_exit ?_ | refine inb_here ?_ | refine inb_past (by decide) ?_ | refine go_ret ?_ | refine next_ret ?_ | refine inb_ret ?_))
    (apply ends_ok; (case h1 => simp; exact is_rfl); (case h2 => simp; exact is_rfl))
    simp
  · rw [if_neg h1]
    have e : max n 0 = n := by omega
    have q1 : n.tdiv 2 = n / 2 := Int.tdiv_eq_ediv_of_nonneg (by omega)
    have q2 : n.tmod 2 = n % 2 := Int.tmod_eq_emod_of_nonneg (by omega)
    have w1 : IntKind.i64.wrap (n / 2) = n / 2 := wrap_id (by omega) (by omega)
    have w2 : IntKind.i64.wrap (n / 2 + n % 2) = n / 2 + n % 2 := wrap_id (by omega) (by omega)
    (refine gives_iff ?_; refine go_func Tryz.f20 rfl rfl (by simp [Tryz.f20]) ?_; dsimp only [codeL, Tryz.f20, scL, sopsL, guardL, dstAt, loopKey])
    (repeat (first
    | (apply is_ok; (case hw => simp [e, q1, q2, w1, w2]); (case he => simp [e, q1, q2, w1, w2]; exact is_rfl))
    | (apply op_no; (case hw => simp [e, q1, q2, w1, w2]))
    | refine op_nil ?_ | refine next_normal ?_ | refine go_seq ?_ | refine go_region ?_ | refine go_skip ?_ | refine go_block ?_ | refine inb_normal ?_
    | (apply go_yes; (case hc => simp [e, q1, q2, w1, w2])) | (apply go_no; (case hc => simp [e, q1, q2, w1, w2]))
    | refine go_exit ?_ | refine next_exit ?_ | refine inb_here ?_ | refine inb_past (by decide) ?_ | refine go_ret ?_ | refine next_ret ?_ | refine inb_ret ?_))
    (apply ends_ok; (case h1 => simp; exact is_rfl); (case h2 => simp; exact is_rfl))
    simp
theorem SectorsR_eq (n : Int) (hn : -9223372036854775808 ≤ n ∧ n ≤ 9223372036854775807) : bodyW DC 25 [.int .i64 n] [] = some (.int .i64 (secN n), []) := by
  unfold secN
  by_cases h1 : n < 1
  · rw [if_pos h1]
    (refine gives_iff ?_; refine go_func Tryz.f25 rfl rfl (by simp [Tryz.f25]) ?_; dsimp only [codeL, Tryz.f25, scL, sopsL, guardL, dstAt, loopKey])
    (repeat (first
    | (apply is_ok; (case hw => simp [h1]); (case he => simp [h1]; exact is_rfl))
    | (apply op_no; (case hw => simp [h1]))
    | refine op_nil ?_ | refine next_normal ?_ | refine go_seq ?_ | refine go_region ?_ | refine go_skip ?_ | refine go_block ?_ | refine inb_normal ?_
    | (apply go_yes; (case hc => simp [h1])) | (apply go_no; (case hc => simp [h1]))
    | refine go_exit ?_ | refine next_exit ?_ | refine inb_here ?_ | refine inb_past (by decide) ?_ | refine go_ret ?_ | refine next_ret ?_ | refine inb_ret ?_))
    (apply ends_ok; (case h1 => simp; exact is_rfl); (case h2 => simp; exact is_rfl))
    simp
  · rw [if_neg h1]
    have q1 : n.tdiv 2 = n / 2 := Int.tdiv_eq_ediv_of_nonneg (by omega)
    have q2 : n.tmod 2 = n % 2 := Int.tmod_eq_emod_of_nonneg (by omega)
    have w1 : IntKind.i64.wrap (n / 2) = n / 2 := wrap_id (by omega) (by omega)
    have w2 : IntKind.i64.wrap (n / 2 + n % 2) = n / 2 + n % 2 := wrap_id (by omega) (by omega)
    (refine gives_iff ?_; refine go_func Tryz.f25 rfl rfl (by simp [Tryz.f25]) ?_; dsimp only [codeL, Tryz.f25, scL, sopsL, guardL, dstAt, loopKey])
    (repeat (first
    | (apply is_ok; (case hw => simp [h1, q1, q2, w1, w2]); (case he => simp [h1, q1, q2, w1, w2]; exact is_rfl))
    | (apply op_no; (case hw => simp [h1, q1, q2, w1, w2]))
    | refine op_nil ?_ | refine next_normal ?_ | refine go_seq ?_ | refine go_region ?_ | refine go_skip ?_ | refine go_block ?_ | refine inb_normal ?_
    | (apply go_yes; (case hc => simp [h1, q1, q2, w1, w2])) | (apply go_no; (case hc => simp [h1, q1, q2, w1, w2]))
    | refine go_exit ?_ | refine next_exit ?_ | refine inb_here ?_ | refine inb_past (by decide) ?_ | refine go_ret ?_ | refine next_ret ?_ | refine inb_ret ?_))
    (apply ends_ok; (case h1 => simp; exact is_rfl); (case h2 => simp; exact is_rfl))
    simp
end Go.Abs

namespace Go.Abs
open Go.Proofs
set_option maxRecDepth 100000
set_option linter.unusedSimpArgs false
set_option linter.unusedVariables false

def coreL (ps : List Pr) : List Ex := (ps.filter fun p => decide (hasP p) && !p.swd).map fun p => (p.base, p.blk)
def swpL (ps : List Pr) : List Ex := (ps.filter fun p => decide (hasP p) && p.swd).map fun p => (p.base, secN p.blk)
theorem coreL_snoc (ps : List Pr) (p : Pr) : coreL (ps ++ [p]) = coreL ps ++ (if hasP p ∧ p.swd = false then [(p.base, p.blk)] else []) := by
  unfold coreL
  by_cases h1 : hasP p <;> cases h2 : p.swd <;> simp [h1, h2, List.filter_append]
theorem swpL_snoc (ps : List Pr) (p : Pr) : swpL (ps ++ [p]) = swpL ps ++ (if hasP p ∧ p.swd = true then [(p.base, secN p.blk)] else []) := by
  unfold swpL
  by_cases h1 : hasP p <;> cases h2 : p.swd <;> simp [h1, h2, List.filter_append]

@[simp] theorem coreL_nil : coreL [] = [] := rfl
@[simp] theorem swpL_nil : swpL [] = [] := rfl
theorem coreL_len (ps : List Pr) : (coreL ps).length ≤ ps.length := by unfold coreL; rw [List.length_map]; exact List.length_filter_le ..
theorem swpL_len (ps : List Pr) : (swpL ps).length ≤ ps.length := by unfold swpL; rw [List.length_map]; exact List.length_filter_le ..

theorem Core_eq (s : Sys) : bodyW DC 30 [.agg (prsC s.ps)] [] = some (.own 0 (coreL s.ps).length 0 (coreL s.ps).length, [.dat true 2 ((coreL s.ps).map exV)]) := by
  have hps := s.hps
  (refine gives_iff ?_; refine go_func Tryz.f30 rfl rfl (by simp [Tryz.f30]) ?_; dsimp only [codeL, Tryz.f30, scL, sopsL, guardL, dstAt, loopKey])
  (repeat (first
    | (apply is_ok; (case hw => simp); (case he => simp; exact is_rfl))
    | (apply op_no; (case hw => simp))
    | refine op_nil ?_ | refine next_normal ?_ | refine go_seq ?_ | refine go_region ?_ | refine go_skip ?_ | refine go_block ?_ | refine inb_normal ?_
    | (apply go_yes; (case hc => simp)) | (apply go_no; (case hc => simp))
    | refine go_exit ?_ | refine next_exit ?_ | refine inb_here ?_ | refine inb_past (by decide) ?_ | refine go_ret ?_ | refine next_ret ?_ | refine inb_ret ?_))
  refine go_count 8 (fun i => [(3, .own 0 (coreL (s.ps.take i)).length 0 (coreL (s.ps.take i)).length), (6, .agg (prsC s.ps)), (7, .int .i64 i)]) (fun i => [.dat true 2 ((coreL (s.ps.take i)).map exV)]) (fun _ => True) (by simp) trivial fun i hi _ => ?_
  by_cases hlt : i < 8
  · have g1 : (i : Int) < 8 := by omega
    have g2 : s.ps[i]? = some s.ps[i] := List.getElem?_eq_getElem (by omega)
    have w1 : IntKind.i64.wrap ((i : Int) + 1) = (i : Int) + 1 := wrap_id (by omega) (by omega)
    have e1 : s.ps.take (i + 1) = s.ps.take i ++ [s.ps[i]] := List.take_succ_eq_append_getElem (by omega)
    have v := hasImage_eq s.ps[i]
    rw [e1, coreL_snoc]
    have hr := coreL_len (s.ps.take i)
    rw [List.length_take] at hr
    have r1 : ((coreL (s.ps.take i)).length + 1) * 16 ≤ room := by unfold room; omega
    have r2 : (coreL (s.ps.take i)).length + 1 ≤ room := by unfold room; omega
    by_cases c1 : hasP s.ps[i]
    · rw [decide_eq_true c1] at v
      cases c2 : s.ps[i].swd with
      | false =>
        rw [if_pos ⟨c1, rfl⟩]
        (repeat (first
    | (apply is_ok; (case hw => simp [g1, g2, hlt, v, c2, w1, r1, r2]); (case he => simp [g1, g2, hlt, v, c2, w1, r1, r2]; exact is_rfl))
    | (apply op_no; (case hw => simp [g1, g2, hlt, v, c2, w1, r1, r2]))
    | refine op_nil ?_ | refine next_normal ?_ | refine go_seq ?_ | refine go_region ?_ | refine go_skip ?_ | refine go_block ?_ | refine inb_normal ?_
    | (apply go_yes; (case hc => simp [g1, g2, hlt, v, c2, w1, r1, r2])) | (apply go_no; (case hc => simp [g1, g2, hlt, v, c2, w1, r1, r2]))
    | refine go_exit ?_ | refine next_exit ?_ | refine inb_here ?_ | refine inb_past (by decide) ?_ | refine go_ret ?_ | refine next_ret ?_ | refine inb_ret ?_))
        exact ⟨hlt, by simp [w1, exV], trivial⟩
      | true =>
        rw [if_neg (fun h => by cases h.2)]
        (repeat (first
    | (apply is_ok; (case hw => simp [g1, g2, hlt, v, c2, w1, r1, r2]); (case he => simp [g1, g2, hlt, v, c2, w1, r1, r2]; exact is_rfl))
    | (apply op_no; (case hw => simp [g1, g2, hlt, v, c2, w1, r1, r2]))
    | refine op_nil ?_ | refine next_normal ?_ | refine go_seq ?_ | refine go_region ?_ | refine go_skip ?_ | refine go_block ?_ | refine inb_normal ?_
    | (apply go_yes; (case hc => simp [g1, g2, hlt, v, c2, w1, r1, r2])) | (apply go_no; (case hc => simp [g1, g2, hlt, v, c2, w1, r1, r2]))
    | refine go_exit ?_ | refine next_exit ?_ | refine inb_here ?_ | refine inb_past (by decide) ?_ | refine go_ret ?_ | refine next_ret ?_ | refine inb_ret ?_))
        exact ⟨hlt, by simp [w1], trivial⟩
    · rw [decide_eq_false c1] at v
      rw [if_neg (fun h => c1 h.1)]
      (repeat (first
    | (apply is_ok; (case hw => simp [g1, g2, hlt, v, w1, r1, r2]); (case he => simp [g1, g2, hlt, v, w1, r1, r2]; exact is_rfl))
    | (apply op_no; (case hw => simp [g1, g2, hlt, v, w1, r1, r2]))
    | refine op_nil ?_ | refine next_normal ?_ | refine go_seq ?_ | refine go_region ?_ | refine go_skip ?_ | refine go_block ?_ | refine inb_normal ?_
    | (apply go_yes; (case hc => simp [g1, g2, hlt, v, w1, r1, r2])) | (apply go_no; (case hc => simp [g1, g2, hlt, v, w1, r1, r2]))
    | refine go_exit ?_ | refine next_exit ?_ | refine inb_here ?_ | refine inb_past (by decide) ?_ | refine go_ret ?_ | refine next_ret ?_ | refine inb_ret ?_))
      exact ⟨hlt, by simp [w1], trivial⟩
  · have : i = 8 := by omega
    subst this
    rw [List.take_of_length_le (by omega)]
    (repeat (first
    | (apply is_ok; (case hw => simp); (case he => simp; exact is_rfl))
    | (apply op_no; (case hw => simp))
    | refine op_nil ?_ | refine next_normal ?_ | refine go_seq ?_ | refine go_region ?_ | refine go_skip ?_ | refine go_block ?_ | refine inb_normal ?_
    | (apply go_yes; (case hc => simp)) | (apply go_no; (case hc => simp))
    | refine go_exit ?_ | refine next_exit ?_ | refine inb_here ?_ | refine inb_past (by decide) ?_ | refine go_ret ?_ | refine next_ret ?_ | refine inb_ret ?_))
    (apply ends_ok; (case h1 => simp; exact is_rfl); (case h2 => simp; exact is_rfl))
    simp
theorem CoreR_eq (s : Sys) : bodyW DC 17 [.agg (prsC s.ps)] [] = some (.own 0 (coreL s.ps).length 0 (coreL s.ps).length, [.dat true 2 ((coreL s.ps).map exV)]) := by
  have hps := s.hps
  (refine gives_iff ?_; refine go_func Tryz.f17 rfl rfl (by simp [Tryz.f17]) ?_; dsimp only [codeL, Tryz.f17, scL, sopsL, guardL, dstAt, loopKey])
  (repeat (first
    | (apply is_ok; (case hw => simp); (case he => simp; exact is_rfl))
    | (apply op_no; (case hw => simp))
    | refine op_nil ?_ | refine next_normal ?_ | refine go_seq ?_ | refine go_region ?_ | refine go_skip ?_ | refine go_block ?_ | refine inb_normal ?_
    | (apply go_yes; (case hc => simp)) | (apply go_no; (case hc => simp))
    | refine go_exit ?_ | refine next_exit ?_ | refine inb_here ?_ | refine inb_past (by decide) ?_ | refine go_ret ?_ | refine next_ret ?_ | refine inb_ret ?_))
  refine go_count 8 (fun i => [(1, .ptr 0 1 0 0), (3, .own 1 (coreL (s.ps.take i)).length 0 (coreL (s.ps.take i)).length), (4, .int .i64 i)]) (fun i => [.box (.agg (prsC s.ps)), .dat true 2 ((coreL (s.ps.take i)).map exV)]) (fun _ => True) (by simp) trivial fun i hi _ => ?_
  by_cases hlt : i < 8
  · have g1 : (i : Int) < 8 := by omega
    have g2 : s.ps[i]? = some s.ps[i] := List.getElem?_eq_getElem (by omega)
    have w1 : IntKind.i64.wrap ((i : Int) + 1) = (i : Int) + 1 := wrap_id (by omega) (by omega)
    have e1 : s.ps.take (i + 1) = s.ps.take i ++ [s.ps[i]] := List.take_succ_eq_append_getElem (by omega)
    have v := hasR_eq s.ps[i]
    rw [e1, coreL_snoc]
    have hr := coreL_len (s.ps.take i)
    rw [List.length_take] at hr
    have r1 : ((coreL (s.ps.take i)).length + 1) * 16 ≤ room := by unfold room; omega
    have r2 : (coreL (s.ps.take i)).length + 1 ≤ room := by unfold room; omega
    by_cases c1 : hasP s.ps[i]
    · rw [decide_eq_true c1] at v
      cases c2 : s.ps[i].swd with
      | false =>
        rw [if_pos ⟨c1, rfl⟩]
        (repeat (first
    | (apply is_ok; (case hw => simp [g1, g2, hlt, v, c2, w1, r1, r2]); (case he => simp [g1, g2, hlt, v, c2, w1, r1, r2]; exact is_rfl))
    | (apply op_no; (case hw => simp [g1, g2, hlt, v, c2, w1, r1, r2]))
    | refine op_nil ?_ | refine next_normal ?_ | refine go_seq ?_ | refine go_region ?_ | refine go_skip ?_ | refine go_block ?_ | refine inb_normal ?_
    | (apply go_yes; (case hc => simp [g1, g2, hlt, v, c2, w1, r1, r2])) | (apply go_no; (case hc => simp [g1, g2, hlt, v, c2, w1, r1, r2]))
    | refine go_exit ?_ | refine next_exit ?_ | refine inb_here ?_ | refine inb_past (by decide) ?_ | refine go_ret ?_ | refine next_ret ?_ | refine inb_ret ?_))
        exact ⟨hlt, by simp [w1, exV], trivial⟩
      | true =>
        rw [if_neg (fun h => by cases h.2)]
        (repeat (first
    | (apply is_ok; (case hw => simp [g1, g2, hlt, v, c2, w1, r1, r2]); (case he => simp [g1, g2, hlt, v, c2, w1, r1, r2]; exact is_rfl))
    | (apply op_no; (case hw => simp [g1, g2, hlt, v, c2, w1, r1, r2]))
    | refine op_nil ?_ | refine next_normal ?_ | refine go_seq ?_ | refine go_region ?_ | refine go_skip ?_ | refine go_block ?_ | refine inb_normal ?_
    | (apply go_yes; (case hc => simp [g1, g2, hlt, v, c2, w1, r1, r2])) | (apply go_no; (case hc => simp [g1, g2, hlt, v, c2, w1, r1, r2]))
    | refine go_exit ?_ | refine next_exit ?_ | refine inb_here ?_ | refine inb_past (by decide) ?_ | refine go_ret ?_ | refine next_ret ?_ | refine inb_ret ?_))
        exact ⟨hlt, by simp [w1], trivial⟩
    · rw [decide_eq_false c1] at v
      rw [if_neg (fun h => c1 h.1)]
      (repeat (first
    | (apply is_ok; (case hw => simp [g1, g2, hlt, v, w1, r1, r2]); (case he => simp [g1, g2, hlt, v, w1, r1, r2]; exact is_rfl))
    | (apply op_no; (case hw => simp [g1, g2, hlt, v, w1, r1, r2]))
    | refine op_nil ?_ | refine next_normal ?_ | refine go_seq ?_ | refine go_region ?_ | refine go_skip ?_ | refine go_block ?_ | refine inb_normal ?_
    | (apply go_yes; (case hc => simp [g1, g2, hlt, v, w1, r1, r2])) | (apply go_no; (case hc => simp [g1, g2, hlt, v, w1, r1, r2]))
    | refine go_exit ?_ | refine next_exit ?_ | refine inb_here ?_ | refine inb_past (by decide) ?_ | refine go_ret ?_ | refine next_ret ?_ | refine inb_ret ?_))
      exact ⟨hlt, by simp [w1], trivial⟩
  · have : i = 8 := by omega
    subst this
    rw [List.take_of_length_le (by omega)]
    (repeat (first
    | (apply is_ok; (case hw => simp); (case he => simp; exact is_rfl))
    | (apply op_no; (case hw => simp))
    | refine op_nil ?_ | refine next_normal ?_ | refine go_seq ?_ | refine go_region ?_ | refine go_skip ?_ | refine go_block ?_ | refine inb_normal ?_
    | (apply go_yes; (case hc => simp)) | (apply go_no; (case hc => simp))
    | refine go_exit ?_ | refine next_exit ?_ | refine inb_here ?_ | refine inb_past (by decide) ?_ | refine go_ret ?_ | refine next_ret ?_ | refine inb_ret ?_))
    (apply ends_ok; (case h1 => simp; exact is_rfl); (case h2 => simp; exact is_rfl))
    simp
theorem Swapped_eq (s : Sys) (hk : ∀ p ∈ s.ps, -9223372036854775808 ≤ p.blk ∧ p.blk ≤ 9223372036854775807) : bodyW DC 22 [.agg (prsC s.ps)] [] = some (.own 0 (swpL s.ps).length 0 (swpL s.ps).length, [.dat true 2 ((swpL s.ps).map exV)]) := by
  have hps := s.hps
  (refine gives_iff ?_; refine go_func Tryz.f22 rfl rfl (by simp [Tryz.f22]) ?_; dsimp only [codeL, Tryz.f22, scL, sopsL, guardL, dstAt, loopKey])
  (repeat (first
    | (apply is_ok; (case hw => simp); (case he => simp; exact is_rfl))
    | (apply op_no; (case hw => simp))
    | refine op_nil ?_ | refine next_normal ?_ | refine go_seq ?_ | refine go_region ?_ | refine go_skip ?_ | refine go_block ?_ | refine inb_normal ?_
    | (apply go_yes; (case hc => simp)) | (apply go_no; (case hc => simp))
    | refine go_exit ?_ | refine next_exit ?_ | refine inb_here ?_ | refine inb_past (by decide) ?_ | refine go_ret ?_ | refine next_ret ?_ | refine inb_ret ?_))
  refine go_count 8 (fun i => [(3, .own 0 (swpL (s.ps.take i)).length 0 (swpL (s.ps.take i)).length), (6, .agg (prsC s.ps)), (7, .int .i64 i)]) (fun i => [.dat true 2 ((swpL (s.ps.take i)).map exV)]) (fun _ => True) (by simp) trivial fun i hi _ => ?_
  by_cases hlt : i < 8
  · have g1 : (i : Int) < 8 := by omega
    have g2 : s.ps[i]? = some s.ps[i] := List.getElem?_eq_getElem (by omega)
    have w1 : IntKind.i64.wrap ((i : Int) + 1) = (i : Int) + 1 := wrap_id (by omega) (by omega)
    have e1 : s.ps.take (i + 1) = s.ps.take i ++ [s.ps[i]] := List.take_succ_eq_append_getElem (by omega)
    have v := hasImage_eq s.ps[i]
    have hb : -9223372036854775808 ≤ s.ps[i].blk ∧ s.ps[i].blk ≤ 9223372036854775807 := hk _ (List.getElem_mem _)
    have v2 := Sectors_eq s.ps[i].blk hb
    rw [e1, swpL_snoc]
    have hr := swpL_len (s.ps.take i)
    rw [List.length_take] at hr
    have r1 : ((swpL (s.ps.take i)).length + 1) * 16 ≤ room := by unfold room; omega
    have r2 : (swpL (s.ps.take i)).length + 1 ≤ room := by unfold room; omega
    by_cases c1 : hasP s.ps[i]
    · rw [decide_eq_true c1] at v
      cases c2 : s.ps[i].swd with
      | true =>
        rw [if_pos ⟨c1, rfl⟩]
        (repeat (first
    | (apply is_ok; (case hw => simp [g1, g2, hlt, v, v2, c2, w1, r1, r2]); (case he => simp [g1, g2, hlt, v, v2, c2, w1, r1, r2]; exact is_rfl))
    | (apply op_no; (case hw => simp [g1, g2, hlt, v, v2, c2, w1, r1, r2]))
    | refine op_nil ?_ | refine next_normal ?_ | refine go_seq ?_ | refine go_region ?_ | refine go_skip ?_ | refine go_block ?_ | refine inb_normal ?_
    | (apply go_yes; (case hc => simp [g1, g2, hlt, v, v2, c2, w1, r1, r2])) | (apply go_no; (case hc => simp [g1, g2, hlt, v, v2, c2, w1, r1, r2]))
    | refine go_exit ?_ | refine next_exit ?_ | refine inb_here ?_ | refine inb_past (by decide) ?_ | refine go_ret ?_ | refine next_ret ?_ | refine inb_ret ?_))
        exact ⟨hlt, by simp [w1, exV], trivial⟩
      | false =>
        rw [if_neg (fun h => by cases h.2)]
        (repeat (first
    | (apply is_ok; (case hw => simp [g1, g2, hlt, v, c2, w1, r1, r2]); (case he => simp [g1, g2, hlt, v, c2, w1, r1, r2]; exact is_rfl))
    | (apply op_no; (case hw => simp [g1, g2, hlt, v, c2, w1, r1, r2]))
    | refine op_nil ?_ | refine next_normal ?_ | refine go_seq ?_ | refine go_region ?_ | refine go_skip ?_ | refine go_block ?_ | refine inb_normal ?_
    | (apply go_yes; (case hc => simp [g1, g2, hlt, v, c2, w1, r1, r2])) | (apply go_no; (case hc => simp [g1, g2, hlt, v, c2, w1, r1, r2]))
    | refine go_exit ?_ | refine next_exit ?_ | refine inb_here ?_ | refine inb_past (by decide) ?_ | refine go_ret ?_ | refine next_ret ?_ | refine inb_ret ?_))
        exact ⟨hlt, by simp [w1], trivial⟩
    · rw [decide_eq_false c1] at v
      rw [if_neg (fun h => c1 h.1)]
      (repeat (first
    | (apply is_ok; (case hw => simp [g1, g2, hlt, v, w1, r1, r2]); (case he => simp [g1, g2, hlt, v, w1, r1, r2]; exact is_rfl))
    | (apply op_no; (case hw => simp [g1, g2, hlt, v, w1, r1, r2]))
    | refine op_nil ?_ | refine next_normal ?_ | refine go_seq ?_ | refine go_region ?_ | refine go_skip ?_ | refine go_block ?_ | refine inb_normal ?_
    | (apply go_yes; (case hc => simp [g1, g2, hlt, v, w1, r1, r2])) | (apply go_no; (case hc => simp [g1, g2, hlt, v, w1, r1, r2]))
    | refine go_exit ?_ | refine next_exit ?_ | refine inb_here ?_ | refine inb_past (by decide) ?_ | refine go_ret ?_ | refine next_ret ?_ | refine inb_ret ?_))
      exact ⟨hlt, by simp [w1], trivial⟩
  · have : i = 8 := by omega
    subst this
    rw [List.take_of_length_le (by omega)]
    (repeat (first
    | (apply is_ok; (case hw => simp); (case he => simp; exact is_rfl))
    | (apply op_no; (case hw => simp))
    | refine op_nil ?_ | refine next_normal ?_ | refine go_seq ?_ | refine go_region ?_ | refine go_skip ?_ | refine go_block ?_ | refine inb_normal ?_
    | (apply go_yes; (case hc => simp)) | (apply go_no; (case hc => simp))
    | refine go_exit ?_ | refine next_exit ?_ | refine inb_here ?_ | refine inb_past (by decide) ?_ | refine go_ret ?_ | refine next_ret ?_ | refine inb_ret ?_))
    (apply ends_ok; (case h1 => simp; exact is_rfl); (case h2 => simp; exact is_rfl))
    simp
theorem SwappedR_eq (s : Sys) (hk : ∀ p ∈ s.ps, -9223372036854775808 ≤ p.blk ∧ p.blk ≤ 9223372036854775807) : bodyW DC 18 [.agg (prsC s.ps)] [] = some (.own 0 (swpL s.ps).length 0 (swpL s.ps).length, [.dat true 2 ((swpL s.ps).map exV)]) := by
  have hps := s.hps
  (refine gives_iff ?_; refine go_func Tryz.f18 rfl rfl (by simp [Tryz.f18]) ?_; dsimp only [codeL, Tryz.f18, scL, sopsL, guardL, dstAt, loopKey])
  (repeat (first
    | (apply is_ok; (case hw => simp); (case he => simp; exact is_rfl))
    | (apply op_no; (case hw => simp))
    | refine op_nil ?_ | refine next_normal ?_ | refine go_seq ?_ | refine go_region ?_ | refine go_skip ?_ | refine go_block ?_ | refine inb_normal ?_
    | (apply go_yes; (case hc => simp)) | (apply go_no; (case hc => simp))
    | refine go_exit ?_ | refine next_exit ?_ | refine inb_here ?_ | refine inb_past (by decide) ?_ | refine go_ret ?_ | refine next_ret ?_ | refine inb_ret ?_))
  refine go_count 8 (fun i => [(1, .ptr 0 1 0 0), (3, .own 1 (swpL (s.ps.take i)).length 0 (swpL (s.ps.take i)).length), (4, .int .i64 i)]) (fun i => [.box (.agg (prsC s.ps)), .dat true 2 ((swpL (s.ps.take i)).map exV)]) (fun _ => True) (by simp) trivial fun i hi _ => ?_
  by_cases hlt : i < 8
  · have g1 : (i : Int) < 8 := by omega
    have g2 : s.ps[i]? = some s.ps[i] := List.getElem?_eq_getElem (by omega)
    have w1 : IntKind.i64.wrap ((i : Int) + 1) = (i : Int) + 1 := wrap_id (by omega) (by omega)
    have e1 : s.ps.take (i + 1) = s.ps.take i ++ [s.ps[i]] := List.take_succ_eq_append_getElem (by omega)
    have v := hasR_eq s.ps[i]
    have hb : -9223372036854775808 ≤ s.ps[i].blk ∧ s.ps[i].blk ≤ 9223372036854775807 := hk _ (List.getElem_mem _)
    have v2 := SectorsR_eq s.ps[i].blk hb
    rw [e1, swpL_snoc]
    have hr := swpL_len (s.ps.take i)
    rw [List.length_take] at hr
    have r1 : ((swpL (s.ps.take i)).length + 1) * 16 ≤ room := by unfold room; omega
    have r2 : (swpL (s.ps.take i)).length + 1 ≤ room := by unfold room; omega
    by_cases c1 : hasP s.ps[i]
    · rw [decide_eq_true c1] at v
      cases c2 : s.ps[i].swd with
      | true =>
        rw [if_pos ⟨c1, rfl⟩]
        (repeat (first
    | (apply is_ok; (case hw => simp [g1, g2, hlt, v, v2, c2, w1, r1, r2]); (case he => simp [g1, g2, hlt, v, v2, c2, w1, r1, r2]; exact is_rfl))
    | (apply op_no; (case hw => simp [g1, g2, hlt, v, v2, c2, w1, r1, r2]))
    | refine op_nil ?_ | refine next_normal ?_ | refine go_seq ?_ | refine go_region ?_ | refine go_skip ?_ | refine go_block ?_ | refine inb_normal ?_
    | (apply go_yes; (case hc => simp [g1, g2, hlt, v, v2, c2, w1, r1, r2])) | (apply go_no; (case hc => simp [g1, g2, hlt, v, v2, c2, w1, r1, r2]))
    | refine go_exit ?_ | refine next_exit ?_ | refine inb_here ?_ | refine inb_past (by decide) ?_ | refine go_ret ?_ | refine next_ret ?_ | refine inb_ret ?_))
        exact ⟨hlt, by simp [w1, exV], trivial⟩
      | false =>
        rw [if_neg (fun h => by cases h.2)]
        (repeat (first
    | (apply is_ok; (case hw => simp [g1, g2, hlt, v, c2, w1, r1, r2]); (case he => simp [g1, g2, hlt, v, c2, w1, r1, r2]; exact is_rfl))
    | (apply op_no; (case hw => simp [g1, g2, hlt, v, c2, w1, r1, r2]))
    | refine op_nil ?_ | refine next_normal ?_ | refine go_seq ?_ | refine go_region ?_ | refine go_skip ?_ | refine go_block ?_ | refine inb_normal ?_
    | (apply go_yes; (case hc => simp [g1, g2, hlt, v, c2, w1, r1, r2])) | (apply go_no; (case hc => simp [g1, g2, hlt, v, c2, w1, r1, r2]))
    | refine go_exit ?_ | refine next_exit ?_ | refine inb_here ?_ | refine inb_past (by decide) ?_ | refine go_ret ?_ | refine next_ret ?_ | refine inb_ret ?_))
        exact ⟨hlt, by simp [w1], trivial⟩
    · rw [decide_eq_false c1] at v
      rw [if_neg (fun h => c1 h.1)]
      (repeat (first
    | (apply is_ok; (case hw => simp [g1, g2, hlt, v, w1, r1, r2]); (case he => simp [g1, g2, hlt, v, w1, r1, r2]; exact is_rfl))
    | (apply op_no; (case hw => simp [g1, g2, hlt, v, w1, r1, r2]))
    | refine op_nil ?_ | refine next_normal ?_ | refine go_seq ?_ | refine go_region ?_ | refine go_skip ?_ | refine go_block ?_ | refine inb_normal ?_
    | (apply go_yes; (case hc => simp [g1, g2, hlt, v, w1, r1, r2])) | (apply go_no; (case hc => simp [g1, g2, hlt, v, w1, r1, r2]))
    | refine go_exit ?_ | refine next_exit ?_ | refine inb_here ?_ | refine inb_past (by decide) ?_ | refine go_ret ?_ | refine next_ret ?_ | refine inb_ret ?_))
      exact ⟨hlt, by simp [w1], trivial⟩
  · have : i = 8 := by omega
    subst this
    rw [List.take_of_length_le (by omega)]
    (repeat (first
    | (apply is_ok; (case hw => simp); (case he => simp; exact is_rfl))
    | (apply op_no; (case hw => simp))
    | refine op_nil ?_ | refine next_normal ?_ | refine go_seq ?_ | refine go_region ?_ | refine go_skip ?_ | refine go_block ?_ | refine inb_normal ?_
    | (apply go_yes; (case hc => simp)) | (apply go_no; (case hc => simp))
    | refine go_exit ?_ | refine next_exit ?_ | refine inb_here ?_ | refine inb_past (by decide) ?_ | refine go_ret ?_ | refine next_ret ?_ | refine inb_ret ?_))
    (apply ends_ok; (case h1 => simp; exact is_rfl); (case h2 => simp; exact is_rfl))
    simp
end Go.Abs

