/- Proved here: what functions of the program compute, over the evaluator. No condition but those that each theorem states. -/
import Derived.Test.YthpkihimboiglaaSYS
import Derived.Test.YthpkihimboiglaaH6
import Derived.Test.YthpkihimboiglaaD5
namespace Go.Abs
open Go.Proofs
set_option maxRecDepth 100000
set_option linter.unusedSimpArgs false
set_option linter.unusedVariables false

theorem piece (cs : List V) (o n : Nat) : cs.drop o = (cs.drop o).take n ++ cs.drop (o + n) := by
  rw [← List.drop_drop, List.take_append_drop]
theorem part_part (cs : List V) {o n p m : Nat} (h : p + m ≤ n) : (((cs.drop o).take n).drop p).take m = (cs.drop (o + p)).take m := by
  rw [List.drop_take, List.drop_drop, List.take_take]
  congr 1
  omega
/-- Cells out of plain ones. -/
def csOf (cs : List V) (hp : ∀ x ∈ cs, PlainV x) (o n : Nat) (h : o + n ≤ cs.length) : Cs n := ⟨(cs.drop o).take n, by simp; omega, fun x hx => hp x (List.mem_of_mem_drop (List.mem_of_mem_take hx))⟩

/-- All numbers of a process are numbers. -/
def Pr.Wf (p : Pr) : Prop := (-9223372036854775808 ≤ p.st ∧ p.st ≤ 9223372036854775807) ∧ (-9223372036854775808 ≤ p.base ∧ p.base ≤ 9223372036854775807) ∧ (-9223372036854775808 ≤ p.blk ∧ p.blk ≤ 9223372036854775807)

theorem pr_cells {n : Nat} {cs : List V} (h : HasT Try.prog n 56 cs) : ∃ p : Pr, cs = p.cells ∧ p.Wf := by
  have hp := hasT_plain 10 n 56 cs (by kernel_rfl) h
  obtain ⟨m, rfl, h1, h2⟩ := hasT_struct Try.underlying56 h
  have hl : cs.length = 29 := h1.trans (by kernel_rfl)
  have f2 := h2 2 _ rfl
  have f4 := h2 4 _ rfl
  have f5 := h2 5 _ rfl
  have f6 := h2 6 _ rfl
  obtain ⟨st, e2, w2⟩ := hasT_int Try.underlying3 f2
  obtain ⟨ba, e4, w4⟩ := hasT_int Try.underlying3 f4
  obtain ⟨bl, e5, w5⟩ := hasT_int Try.underlying3 f5
  obtain ⟨sw, e6⟩ := hasT_bool Try.underlying4 f6
  have e2' : (cs.drop 2).take 1 = [V.int .i64 st] := e2
  have e4' : (cs.drop 13).take 1 = [V.int .i64 ba] := e4
  have e5' : (cs.drop 14).take 1 = [V.int .i64 bl] := e5
  have e6' : (cs.drop 15).take 1 = [V.bool sw] := e6
  refine ⟨⟨csOf cs hp 0 2 (by omega), st, csOf cs hp 3 10 (by omega), ba, bl, sw, csOf cs hp 16 13 (by omega)⟩, ?_, wf_i64 w2, wf_i64 w4, wf_i64 w5⟩
  have e : cs = (cs.drop 0).take 2 ++ ((cs.drop 2).take 1 ++ ((cs.drop 3).take 10 ++ ((cs.drop 13).take 1 ++ ((cs.drop 14).take 1 ++ ((cs.drop 15).take 1 ++ (cs.drop 16).take 13))))) := by
    have h16 : (cs.drop 16).take 13 = cs.drop 16 := List.take_of_length_le (by simp; omega)
    rw [h16, ← piece cs 15 1, ← piece cs 14 1, ← piece cs 13 1, ← piece cs 3 10, ← piece cs 2 1, ← piece cs 0 2]
    rfl
  rw [e2', e4', e5', e6'] at e
  exact e

theorem prs_cells : ∀ (k : Nat) (part : List V), part.length = k * 29 → (∀ i, i < k → ∃ p : Pr, (part.drop (i * 29)).take 29 = p.cells ∧ p.Wf) → ∃ ps : List Pr, ps.length = k ∧ part = prsC ps ∧ ∀ p ∈ ps, p.Wf
  | 0, part, hl, _ => ⟨[], rfl, List.eq_nil_of_length_eq_zero (by omega), by simp⟩
  | k + 1, part, hl, h => by
    obtain ⟨p, h1, h2⟩ := h 0 (by omega)
    obtain ⟨ps, h3, h4, h5⟩ := prs_cells k (part.drop 29) (by simp; omega) fun i hi => by
      obtain ⟨q, h6, h7⟩ := h (i + 1) (by omega)
      refine ⟨q, ?_, h7⟩
      rw [List.drop_drop, show 29 + i * 29 = (i + 1) * 29 by omega]
      exact h6
    refine ⟨p :: ps, by simp [h3], ?_, fun q hq => ?_⟩
    · have e : part = (part.drop (0 * 29)).take 29 ++ part.drop 29 := by simp
      rw [e, h1, h4]
      simp [prsC]
    · rcases List.mem_cons.1 hq with rfl | hq
      · exact h2
      · exact h5 q hq

/-- What an argument of type api.System is. -/
structure Sys.Wf (s : Sys) : Prop where
  ps : ∀ p ∈ s.ps, p.Wf
  mem : s.mem.length ≤ maxLen
  memw : ∀ x ∈ s.mem, -9223372036854775808 ≤ x ∧ x ≤ 9223372036854775807
  bad : s.bad.length ≤ maxLen
  badw : ∀ x ∈ s.bad, -9223372036854775808 ≤ x ∧ x ≤ 9223372036854775807
  S : s.S.length ≤ maxLen
  B : s.B.length ≤ maxLen

theorem sys_of {x : V} (h : ArgT Try.prog 66 x) : ∃ s : Sys, x = .agg s.cells ∧ s.Wf := by
  obtain ⟨n, h1, h2⟩ := h
  rw [show aggT Try.prog 66 = some true by kernel_rfl] at h2
  obtain ⟨cs, rfl⟩ := cells_some (Option.some.inj h2).symm
  have h1' : HasT Try.prog n 66 cs := h1
  have hp := hasT_plain 10 n 66 cs (by kernel_rfl) h1'
  obtain ⟨m, rfl, h3, h4⟩ := hasT_struct Try.underlying66 h1'
  have hl : cs.length = 518 := h3.trans (by kernel_rfl)
  have fM := h4 0 _ rfl
  have fP := h4 1 _ rfl
  have fS := h4 5 _ rfl
  have fC := h4 6 _ rfl
  obtain ⟨m1, rfl, _, hM⟩ := hasT_struct Try.underlying53 fM
  have fmem := hM 1 _ rfl
  have fbad := hM 2 _ rfl
  have fdisk := hM 6 _ rfl
  obtain ⟨m2, rfl, _, hD⟩ := hasT_struct Try.underlying49 fdisk
  have fdrv := hD 0 _ rfl
  obtain ⟨m3, rfl, _, hV⟩ := hasT_struct Try.underlying47 fdrv
  have fsec := hV 0 _ rfl
  have fb := hV 1 _ rfl
  obtain ⟨mem, e1, hm1, hm2⟩ := hasT_ints Try.underlying35 (cells_ne (n := 1) (by kernel_rfl) (by decide)) Try.underlying3 fmem
  obtain ⟨bad, e2, hb1, hb2⟩ := hasT_ints Try.underlying35 (cells_ne (n := 1) (by kernel_rfl) (by decide)) Try.underlying3 fbad
  obtain ⟨S, e3, hS, _⟩ := hasT_strs Try.underlying45 (cells_ne (n := 1) (by kernel_rfl) (by decide)) Try.underlying9 fsec
  obtain ⟨B, e4, hB, _⟩ := hasT_ints Try.underlying35 (cells_ne (n := 1) (by kernel_rfl) (by decide)) Try.underlying3 fb
  obtain ⟨sw, e5⟩ := ex_cells fS
  obtain ⟨co, e6⟩ := ex_cells fC
  have e1' : (cs.drop 10).take 1 = [V.sl (ints mem)] := (part_part cs (o := 0) (n := 110) (p := 10) (m := 1) (by decide)).symm.trans e1
  have e2' : (cs.drop 11).take 1 = [V.sl (ints bad)] := (part_part cs (o := 0) (n := 110) (p := 11) (m := 1) (by decide)).symm.trans e2
  have q1 : ∀ (p k : Nat), p + k ≤ 2 → (((((((cs.drop 0).take 110).drop 84).take 10).drop 0).take 2).drop p).take k = (cs.drop (84 + p)).take k := fun p k hk => by
    rw [part_part cs (o := 0) (n := 110) (p := 84) (m := 10) (by decide), part_part cs (o := 0 + 84) (n := 10) (p := 0) (m := 2) (by decide), part_part cs hk]
  have e3' : (cs.drop 84).take 1 = [V.sl (strs S)] := (q1 0 1 (by decide)).symm.trans e3
  have e4' : (cs.drop 85).take 1 = [V.sl (ints B)] := (q1 1 1 (by decide)).symm.trans e4
  have e5' : (cs.drop 511).take 2 = [.int .i64 sw.1, .int .i64 sw.2] := by have := V.agg.inj e5; exact this
  have e6' : (cs.drop 513).take 2 = [.int .i64 co.1, .int .i64 co.2] := by have := V.agg.inj e6; exact this
  obtain ⟨m4, _, _, hA⟩ := hasT_array Try.underlying57 fP
  obtain ⟨ps, hps, e7, hpw⟩ := prs_cells 8 ((cs.drop 110).take 232) (by simp; omega) fun i hi => pr_cells (hA i hi)
  refine ⟨⟨csOf cs hp 0 10 (by omega), mem, bad, csOf cs hp 12 72 (by omega), S, B, csOf cs hp 86 24 (by omega), ps, hps, csOf cs hp 342 169 (by omega), sw, co, csOf cs hp 515 3 (by omega)⟩, ?_, hpw, hm1, fun x hx => wf_i64 (hm2 x hx), hb1, fun x hx => wf_i64 (hb2 x hx), hS, hB⟩
  have e : cs = (cs.drop 0).take 10 ++ ((cs.drop 10).take 1 ++ ((cs.drop 11).take 1 ++ ((cs.drop 12).take 72 ++ ((cs.drop 84).take 1 ++ ((cs.drop 85).take 1 ++ ((cs.drop 86).take 24 ++ ((cs.drop 110).take 232 ++ ((cs.drop 342).take 169 ++ ((cs.drop 511).take 2 ++ ((cs.drop 513).take 2 ++ (cs.drop 515).take 3)))))))))) := by
    have h16 : (cs.drop 515).take 3 = cs.drop 515 := List.take_of_length_le (by simp; omega)
    rw [h16, ← piece cs 513 2, ← piece cs 511 2, ← piece cs 342 169, ← piece cs 110 232, ← piece cs 86 24, ← piece cs 85 1, ← piece cs 84 1, ← piece cs 12 72, ← piece cs 11 1, ← piece cs 10 1, ← piece cs 0 10]
    rfl
  rw [e1', e2', e3', e4', e5', e6', e7] at e
  exact congrArg V.agg e
end Go.Abs
