/- Proved here: what functions of the program compute, over the evaluator. No condition but those that each theorem states. -/
import Derived.Test.YtfgikfagblhkiaaGreatDoorM7
import Derived.Test.YtfgikfagblhkiaaGreatDoorM3
import Derived.Test.YtfgikfagblhkiaaGreatDoorDC
import Derived.Test.YtfgikfagblhkiaaGreatDoorTryShelf
import Derived.Shelf.SlicesE.Clone
import Derived.Test.YtfgikfagblhkiaaGreatDoorA7
import Derived.Shelf.RegionOpenPlain
import Derived.WalkKit
import Derived.Lib.Walk
import Derived.Lib.SliceRun
import Derived.Lib.JoinLaws
import Derived.Lib.AppendZeros
import Derived.Lib.Overlaps
import Derived.Laws.Externs
import Derived.Laws.CopyRow
import Derived.Lib.AppendZerosOnto
import Derived.Deep.AppendSrc
import Derived.Shelf.Spec.SlicesInsert
import Derived.Test.YtfgikfagblhkiaaGreatDoorM6
import Derived.RangeFuncBox
import Derived.RangeFuncLeaves
import Derived.RangeFuncCalls
import Derived.Shelf.Abstract
import Derived.OwnWalkIn
import Derived.TacticsInMore
import Derived.LoopNIn
import Derived.LoopIn
import Derived.Maps.AppendAt
import Derived.WalkSpells
import Derived.BigRegionIn
namespace Go.Abs
open Go.Proofs
set_option maxRecDepth 100000
set_option linter.unusedSimpArgs false
set_option linter.unusedVariables false

def Small40 (S : List (List UInt8)) (B : List Int) : Prop := (∀ i ∈ List.range S.length, i < 65 → (S.getD i []).length ≤ 128) ∧ S.length ≤ 64 ∧ B.length ≤ 64
instance (S : List (List UInt8)) (B : List Int) : Decidable (Small40 S B) := by unfold Small40; infer_instance
theorem small40_eq (S : List (List UInt8)) (B : List Int) (hS : S.length ≤ maxLen) : bodyW DC 10 [drv S B] [] = some (.bool (decide (Small40 S B)), []) := by
  unfold maxLen at hS
  (refine gives_iff ?_; refine go_func Tryz.f10 rfl rfl (by simp [Tryz.f10]) ?_; dsimp only [codeL, Tryz.f10, scL, sopsL, guardL, dstAt, loopKey])
  (repeat (first
    | (apply is_ok; (case hw => simp); (case he => simp; exact is_rfl))
    | (apply op_no; (case hw => simp))
    | refine op_nil ?_ | refine next_normal ?_ | refine go_seq ?_ | refine go_region ?_ | refine go_skip ?_ | refine go_block ?_ | refine inb_normal ?_
    | (apply go_yes; (case hc => simp)) | (apply go_no; (case hc => simp))
    | refine go_exit ?_ | refine next_exit ?_ | refine inb_here ?_ | refine inb_past (by decide) ?_ | refine go_ret ?_ | refine next_ret ?_ | refine inb_ret ?_))
  refine go_count 65 (fun i => [(1, .ptr 0 1 0 0), (3, .int .i64 i)]) (fun _ => [.box (drv S B)]) (fun i => i ≤ S.length ∧ ∀ j (hj : j < S.length), j < i → S[j].length ≤ 128) (by simp) (by simp) fun i hi hI => ?_
  have hw : IntKind.i64.wrap ((i : Int) + 1) = (i : Int) + 1 := wrap_id (by omega) (by omega)
  have fin : (i = S.length ∨ i = 65) → (Small40 S B ↔ S.length ≤ 64 ∧ B.length ≤ 64) := fun h => by
    unfold Small40
    refine ⟨fun h => h.2, fun h2 => ⟨fun j hj hj2 => ?_, h2⟩⟩
    have hj' := List.mem_range.1 hj
    rw [getD_at hj']
    exact hI.2 j hj' (by omega)
  by_cases h1 : i < S.length
  · by_cases h2 : i < 65
    · have h2' : (i : Int) < 65 := by omega
      by_cases h3 : S[i].length ≤ 128
      · have e3 : ¬ ((128 : Int) < S[i].length) := by omega
        (repeat (first
    | (apply is_ok; (case hw => simp [h1, h2, h2', e3]); (case he => simp [h1, h2, h2', e3]; exact is_rfl))
    | (apply op_no; (case hw => simp [h1, h2, h2', e3]))
    | refine op_nil ?_ | refine next_normal ?_ | refine go_seq ?_ | refine go_region ?_ | refine go_skip ?_ | refine go_block ?_ | refine inb_normal ?_
    | (apply go_yes; (case hc => simp [h1, h2, h2', e3])) | (apply go_no; (case hc => simp [h1, h2, h2', e3]))
    | refine go_exit ?_ | refine next_exit ?_ | refine inb_here ?_ | refine inb_past (by decide) ?_ | refine go_ret ?_ | refine next_ret ?_ | refine inb_ret ?_))
        exact ⟨h2, by simp [hw], h1, fun j hj hji => by
          by_cases hje : j = i
          · subst hje; exact h3
          · exact hI.2 j hj (by omega)⟩
      · have e3 : ((128 : Int) < S[i].length) := by omega
        (repeat (first
    | (apply is_ok; (case hw => simp [h1, h2, h2', e3]); (case he => simp [h1, h2, h2', e3]; exact is_rfl))
    | (apply op_no; (case hw => simp [h1, h2, h2', e3]))
    | refine op_nil ?_ | refine next_normal ?_ | refine go_seq ?_ | refine go_region ?_ | refine go_skip ?_ | refine go_block ?_ | refine inb_normal ?_
    | (apply go_yes; (case hc => simp [h1, h2, h2', e3])) | (apply go_no; (case hc => simp [h1, h2, h2', e3]))
    | refine go_exit ?_ | refine next_exit ?_ | refine inb_here ?_ | refine inb_past (by decide) ?_ | refine go_ret ?_ | refine next_ret ?_ | refine inb_ret ?_))
        (apply ends_ok; (case h1 => simp; exact is_rfl); (case h2 => simp; exact is_rfl))
        have : ¬ Small40 S B := fun h => h3 (by have := h.1 i (List.mem_range.2 h1) h2; rwa [getD_at h1] at this)
        simp [this]
    · have h2' : ¬ (i : Int) < 65 := by omega
      have hf := fin (.inr (by omega))
      have e4 : ¬ ((S.length : Int) ≤ 64) := by omega
      have hn : ¬ Small40 S B := fun h => by have := (hf.1 h).1; omega
      (repeat (first
    | (apply is_ok; (case hw => simp [h1, h2, h2', e4]); (case he => simp [h1, h2, h2', e4]; exact is_rfl))
    | (apply op_no; (case hw => simp [h1, h2, h2', e4]))
    | refine op_nil ?_ | refine next_normal ?_ | refine go_seq ?_ | refine go_region ?_ | refine go_skip ?_ | refine go_block ?_ | refine inb_normal ?_
    | (apply go_yes; (case hc => simp [h1, h2, h2', e4])) | (apply go_no; (case hc => simp [h1, h2, h2', e4]))
    | refine go_exit ?_ | refine next_exit ?_ | refine inb_here ?_ | refine inb_past (by decide) ?_ | refine go_ret ?_ | refine next_ret ?_ | refine inb_ret ?_))
      (apply ends_ok; (case h1 => simp; exact is_rfl); (case h2 => simp; exact is_rfl))
      simp [hn]
  · have hf := fin (.inl (by omega))
    by_cases h4 : S.length ≤ 64
    · have e4 : ((S.length : Int) ≤ 64) := by omega
      by_cases h5 : B.length ≤ 64
      · have e5 : ((B.length : Int) ≤ 64) := by omega
        have hn : Small40 S B := hf.2 ⟨h4, h5⟩
        (repeat (first
    | (apply is_ok; (case hw => simp [h1, e4, e5]); (case he => simp [h1, e4, e5]; exact is_rfl))
    | (apply op_no; (case hw => simp [h1, e4, e5]))
    | refine op_nil ?_ | refine next_normal ?_ | refine go_seq ?_ | refine go_region ?_ | refine go_skip ?_ | refine go_block ?_ | refine inb_normal ?_
    | (apply go_yes; (case hc => simp [h1, e4, e5])) | (apply go_no; (case hc => simp [h1, e4, e5]))
    | refine go_exit ?_ | refine next_exit ?_ | refine inb_here ?_ | refine inb_past (by decide) ?_ | refine go_ret ?_ | refine next_ret ?_ | refine inb_ret ?_))
        (apply ends_ok; (case h1 => simp; exact is_rfl); (case h2 => simp; exact is_rfl))
        simp [hn]
      · have e5 : ¬ ((B.length : Int) ≤ 64) := by omega
        have hn : ¬ Small40 S B := fun h => h5 (hf.1 h).2
        (repeat (first
    | (apply is_ok; (case hw => simp [h1, e4, e5]); (case he => simp [h1, e4, e5]; exact is_rfl))
    | (apply op_no; (case hw => simp [h1, e4, e5]))
    | refine op_nil ?_ | refine next_normal ?_ | refine go_seq ?_ | refine go_region ?_ | refine go_skip ?_ | refine go_block ?_ | refine inb_normal ?_
    | (apply go_yes; (case hc => simp [h1, e4, e5])) | (apply go_no; (case hc => simp [h1, e4, e5]))
    | refine go_exit ?_ | refine next_exit ?_ | refine inb_here ?_ | refine inb_past (by decide) ?_ | refine go_ret ?_ | refine next_ret ?_ | refine inb_ret ?_))
        (apply ends_ok; (case h1 => simp; exact is_rfl); (case h2 => simp; exact is_rfl))
        simp [hn]
    · have e4 : ¬ ((S.length : Int) ≤ 64) := by omega
      have hn : ¬ Small40 S B := fun h => h4 (hf.1 h).1
      (repeat (first
    | (apply is_ok; (case hw => simp [h1, e4]); (case he => simp [h1, e4]; exact is_rfl))
    | (apply op_no; (case hw => simp [h1, e4]))
    | refine op_nil ?_ | refine next_normal ?_ | refine go_seq ?_ | refine go_region ?_ | refine go_skip ?_ | refine go_block ?_ | refine inb_normal ?_
    | (apply go_yes; (case hc => simp [h1, e4])) | (apply go_no; (case hc => simp [h1, e4]))
    | refine go_exit ?_ | refine next_exit ?_ | refine inb_here ?_ | refine inb_past (by decide) ?_ | refine go_ret ?_ | refine next_ret ?_ | refine inb_ret ?_))
      (apply ends_ok; (case h1 => simp; exact is_rfl); (case h2 => simp; exact is_rfl))
      simp [hn]


end Go.Abs

namespace Go.Abs
open Go.Proofs
set_option maxRecDepth 100000
set_option linter.unusedSimpArgs false
set_option linter.unusedVariables false


theorem sameE40_refl (l : List (List UInt8 × Int)) (hl : l.length ≤ maxLen) : bodyW DC 26 [.sl (l.map entV), .sl (l.map entV)] [] = some (.bool true, []) := by
  (refine gives_iff ?_; refine go_func Tryz.f26 rfl rfl (by simp [Tryz.f26]) ?_; dsimp only [codeL, Tryz.f26, scL, sopsL, guardL, dstAt, loopKey])
  (repeat (first
    | (apply is_ok; (case hw => simp); (case he => simp; exact is_rfl))
    | (apply op_no; (case hw => simp))
    | refine op_nil ?_ | refine next_normal ?_ | refine go_seq ?_ | refine go_region ?_ | refine go_skip ?_ | refine go_block ?_ | refine inb_normal ?_
    | (apply go_yes; (case hc => simp)) | (apply go_no; (case hc => simp))
    | refine go_exit ?_ | refine next_exit ?_ | refine inb_here ?_ | refine inb_past (by decide) ?_ | refine go_ret ?_ | refine next_ret ?_ | refine inb_ret ?_))
  refine go_count l.length (fun i => [(0, .sl (l.map entV)), (1, .sl (l.map entV)), (5, .int .i64 i)]) (fun _ => []) (fun i => True) (by simp) (by simp) fun i hi hI => ?_
  by_cases hlt : i < l.length
  · have g1 : (i : Int) < l.length := by omega
    have g2 : l[i]? = some l[i] := List.getElem?_eq_getElem hlt
    have w1 : IntKind.i64.wrap ((i : Int) + 1) = (i : Int) + 1 := wrap_id (by omega) (by unfold maxLen at hl; omega)
    have e1 := ent_neq l[i].1 l[i].2
    (repeat (first
    | (apply is_ok; (case hw => simp [-binV, e1, g1, g2, hlt, w1, entV]); (case he => simp [-binV, e1, g1, g2, hlt, w1, entV]; exact is_rfl))
    | (apply op_no; (case hw => simp [-binV, e1, g1, g2, hlt, w1, entV]))
    | refine op_nil ?_ | refine next_normal ?_ | refine go_seq ?_ | refine go_region ?_ | refine go_skip ?_ | refine go_block ?_ | refine inb_normal ?_
    | (apply go_yes; (case hc => simp [-binV, e1, g1, g2, hlt, w1, entV])) | (apply go_no; (case hc => simp [-binV, e1, g1, g2, hlt, w1, entV]))
    | refine go_exit ?_ | refine next_exit ?_ | refine inb_here ?_ | refine inb_past (by decide) ?_ | refine go_ret ?_ | refine next_ret ?_ | refine inb_ret ?_))
    exact ⟨hlt, by simp [w1, entV], trivial⟩
  · have g1 : ¬ (i : Int) < l.length := by omega
    (repeat (first
    | (apply is_ok; (case hw => simp [g1]); (case he => simp [g1]; exact is_rfl))
    | (apply op_no; (case hw => simp [g1]))
    | refine op_nil ?_ | refine next_normal ?_ | refine go_seq ?_ | refine go_region ?_ | refine go_skip ?_ | refine go_block ?_ | refine inb_normal ?_
    | (apply go_yes; (case hc => simp [g1])) | (apply go_no; (case hc => simp [g1]))
    | refine go_exit ?_ | refine next_exit ?_ | refine inb_here ?_ | refine inb_past (by decide) ?_ | refine go_ret ?_ | refine next_ret ?_ | refine inb_ret ?_))
    (apply ends_ok; (case h1 => simp; exact is_rfl); (case h2 => simp; exact is_rfl))
    exact ⟨rfl, rfl⟩

/-- What a law's query is. -/
abbrev qryV (d : Int) (p t : List UInt8) (i o n x : Int) : V := .agg [.int .i64 d, .str p, .str t, .int .i64 i, .int .i64 o, .int .i64 n, .int .i64 x]
def I64 (n : Int) : Prop := -9223372036854775808 ≤ n ∧ n ≤ 9223372036854775807
theorem query_of {x : V} (h : ArgT Tryz.prog 27 x) : ∃ (d : Int) (p t : List UInt8) (i o n z : Int), x = qryV d p t i o n z ∧ (p.length ≤ maxLen ∧ t.length ≤ maxLen) ∧ I64 d ∧ I64 i ∧ I64 o ∧ I64 n ∧ I64 z := by
  obtain ⟨n0, h1, h2⟩ := h
  rw [show aggT Tryz.prog 27 = some true by kernel_rfl] at h2
  obtain ⟨cs, rfl⟩ := cells_some (Option.some.inj h2).symm
  have h1' : HasT Tryz.prog n0 27 cs := h1
  obtain ⟨m, rfl, h3, h4⟩ := hasT_struct Tryz.underlying27 h1'
  have hl : cs.length = 7 := h3.trans (by kernel_rfl)
  match cs, hl with
  | [a, b, c, d, e, f, g], _ =>
    have f0 := h4 0 _ rfl
    have f1 := h4 1 _ rfl
    have f2 := h4 2 _ rfl
    have f3 := h4 3 _ rfl
    have f4 := h4 4 _ rfl
    have f5 := h4 5 _ rfl
    have f6 := h4 6 _ rfl
    obtain ⟨z0, e0, w0⟩ := hasT_int Tryz.underlying3 f0
    obtain ⟨z1, e1, w1⟩ := hasT_str Tryz.underlying9 f1
    obtain ⟨z2, e2, w2⟩ := hasT_str Tryz.underlying9 f2
    obtain ⟨z3, e3, w3⟩ := hasT_int Tryz.underlying3 f3
    obtain ⟨z4, e4, w4⟩ := hasT_int Tryz.underlying3 f4
    obtain ⟨z5, e5, w5⟩ := hasT_int Tryz.underlying3 f5
    obtain ⟨z6, e6, w6⟩ := hasT_int Tryz.underlying3 f6
    have e0' : [a] = [V.int .i64 z0] := e0
    have e1' : [b] = [V.str z1] := e1
    have e2' : [c] = [V.str z2] := e2
    have e3' : [d] = [V.int .i64 z3] := e3
    have e4' : [e] = [V.int .i64 z4] := e4
    have e5' : [f] = [V.int .i64 z5] := e5
    have e6' : [g] = [V.int .i64 z6] := e6
    cases e0'
    cases e1'
    cases e2'
    cases e3'
    cases e4'
    cases e5'
    cases e6'
    exact ⟨z0, z1, z2, z3, z4, z5, z6, rfl, ⟨w1, w2⟩, wf_i64 w0, wf_i64 w3, wf_i64 w4, wf_i64 w5, wf_i64 w6⟩

set_option maxHeartbeats 4000000 in
theorem FsReads_eq (S : List (List UInt8)) (B : List Int) (hS : S.length ≤ maxLen) (hB : B.length ≤ maxLen) (d : Int) (p t : List UInt8) (i o n z : Int) :
    bodyW DC 6 [drv S B, qryV d p t i o n z] [] = some (.bool true, []) := by
  have v0 := small40_eq S B hS
  have va := alive40_eq
  by_cases h1 : Small40 S B
  case neg =>
    rw [decide_eq_false h1] at v0
    (refine gives_iff ?_; refine go_func Tryz.f6 rfl rfl (by simp [Tryz.f6]) ?_; dsimp only [codeL, Tryz.f6, scL, sopsL, guardL, dstAt, loopKey])
    (repeat (first
    | (apply is_ok; (case hw => simp [v0, va]); (case he => simp [v0, va]; exact is_rfl))
    | (apply op_no; (case hw => simp [v0, va]))
    | refine op_nil ?_ | refine next_normal ?_ | refine go_seq ?_ | refine go_region ?_ | refine go_skip ?_ | refine go_block ?_ | refine inb_normal ?_
    | (apply go_yes; (case hc => simp [v0, va])) | (apply go_no; (case hc => simp [v0, va]))
    | refine go_exit ?_ | refine next_exit ?_ | refine inb_here ?_ | refine inb_past (by decide) ?_ | refine go_ret ?_ | refine next_ret ?_ | refine inb_ret ?_))
    (apply ends_ok; (case h1 => simp; exact is_rfl); (case h2 => simp; exact is_rfl))
    simp
  rw [decide_eq_true h1] at v0
  by_cases h2 : (300 : Int) < p.length
  · (refine gives_iff ?_; refine go_func Tryz.f6 rfl rfl (by simp [Tryz.f6]) ?_; dsimp only [codeL, Tryz.f6, scL, sopsL, guardL, dstAt, loopKey])
    (repeat (first
    | (apply is_ok; (case hw => simp [v0, h2, va]); (case he => simp [v0, h2, va]; exact is_rfl))
    | (apply op_no; (case hw => simp [v0, h2, va]))
    | refine op_nil ?_ | refine next_normal ?_ | refine go_seq ?_ | refine go_region ?_ | refine go_skip ?_ | refine go_block ?_ | refine inb_normal ?_
    | (apply go_yes; (case hc => simp [v0, h2, va])) | (apply go_no; (case hc => simp [v0, h2, va]))
    | refine go_exit ?_ | refine next_exit ?_ | refine inb_here ?_ | refine inb_past (by decide) ?_ | refine go_ret ?_ | refine next_ret ?_ | refine inb_ret ?_))
    (apply ends_ok; (case h1 => simp; exact is_rfl); (case h2 => simp; exact is_rfl))
    simp
  have v1 := Resolve_eq S B hB d p
  have v2 := ResolveR_eq S B hB d p
  have v3 := fsRead_eq S B hB i o n
  have v4 := fsReadR_eq S B hB i o n
  have v5 := List_eq S B hB i
  have v6 := ListR_eq S B hB i
  have hl := dirR_len S B i
  have v7 := sameE40_refl (dirR S B i).1 (by unfold maxLen; omega)
  generalize resR S B d p = r1 at v1 v2
  generalize readF S B i o n = r2 at v3 v4
  generalize (dirR S B i).1 = l at v5 v6 v7
  generalize (dirR S B i).2 = e at v5 v6
  (refine gives_iff ?_; refine go_func Tryz.f6 rfl rfl (by simp [Tryz.f6]) ?_; dsimp only [codeL, Tryz.f6, scL, sopsL, guardL, dstAt, loopKey])
  (repeat (first
    | (apply is_ok; (case hw => simp [v0, h2, va, v1, v2, v3, v4, v5, v6, v7]); (case he => simp [v0, h2, va, v1, v2, v3, v4, v5, v6, v7]; exact is_rfl))
    | (apply op_no; (case hw => simp [v0, h2, va, v1, v2, v3, v4, v5, v6, v7]))
    | refine op_nil ?_ | refine next_normal ?_ | refine go_seq ?_ | refine go_region ?_ | refine go_skip ?_ | refine go_block ?_ | refine inb_normal ?_
    | (apply go_yes; (case hc => simp [v0, h2, va, v1, v2, v3, v4, v5, v6, v7])) | (apply go_no; (case hc => simp [v0, h2, va, v1, v2, v3, v4, v5, v6, v7]))
    | refine go_exit ?_ | refine next_exit ?_ | refine inb_here ?_ | refine inb_past (by decide) ?_ | refine go_ret ?_ | refine next_ret ?_ | refine inb_ret ?_))
  (apply ends_ok; (case h1 => simp; exact is_rfl); (case h2 => simp; exact is_rfl))
  simp
end Go.Abs

namespace Go.Proofs
open Go.RowKit Go.Shelf Go.Abs Go.Lib
set_option linter.unusedVariables false
set_option linter.unusedSimpArgs false

def cloE_ren : Go.Shelf.Ren := ⟨fun | 41 => 128 | n => n, fun | 22 => 49 | 23 => 135 | 4 => 4 | n => n, fun | n => n⟩
theorem cloE_lays : Go.Proofs.SlLaysE0.n41 Tryz.prog cloE_ren := {
  mixed := by kernel_rfl
  f41 := ⟨Tryz.f128.name, by decide, Tryz.func128.trans (congrArg some (by kernel_rfl))⟩
  t4 := Tryz.underlying4
  a4 := Tryz.isAgg4
  z4 := Tryz.sizeOf4
  v4 := Tryz.zeroValue4
  t22 := Tryz.underlying49
  a22 := Tryz.isAgg49
  z22 := Tryz.sizeOf49
  v22 := Tryz.zeroValue49 }

theorem iE : (Tryz.prog.info? 135).map (fun i => (i.zero, i.size, i.bytes)) = some (some (.agg #[.string ⟨#[]⟩, .int .i64 0]), 2, 24) := by kernel_rfl
theorem szE (w : World) : (Go.sizeOf 135).run Tryz.prog w = .ok 2 w := by
  obtain ⟨i0, hi, hz0, hz1, hz2⟩ := info_parts iE
  simp [Go.sizeOf, typeInfo, hi, hz1]

theorem clo_some (b off n c : Nat) (news : List Value) (w : World) (hl : news.length = n * 2) (hn : n ≤ maxLen) (hbig : n * 24 ≤ 140737488355328) (hc : ∀ j u, news[j]? = some u → w.cell? ⟨b, off + j, none⟩ = some u) (h1 : ∀ u ∈ news, u.oneCell' = true) :
    Calls Tryz.prog 128 #[.slice (some ⟨b, off, none⟩) n c] w fun e w' => ∃ v', e = .returned v' ∧ w'.ownsRow w.heap.size 135 2 v' n news ∧ v' ≠ .slice none 0 0 ∧ Below w.heap.size w w' := by
  obtain ⟨i0, hi, hz0, hz1, hz2⟩ := info_parts iE
  exact AnyE.slices_Clone cloE_lays i0 _ 2 24 hi hz0 hz1 hz2 rfl (by decide) szE b off n c news w hl hn hbig hc h1

set_option maxHeartbeats 2000000 in
set_option maxRecDepth 100000 in
theorem clo_zero (a : Addr) (c : Nat) (w : World) :
    Calls Tryz.prog 128 #[.slice (some a) 0 c] w fun x w' => ∃ v', x = .returned v' ∧ w'.ownsRow w.heap.size 135 2 v' 0 [] ∧ v' ≠ .slice none 0 0 ∧ Below w.heap.size w w' := by
  obtain ⟨i0, hi, hz0, hz1, hz2⟩ := info_parts iE
  have u28 : Tryz.prog.underlying 49 = some (.slice 135) := by kernel_rfl
  have mixed : Tryz.prog.follows Departure.mixedOrders = true := by kernel_rfl
  have q22 : ∀ (w : World) (a : Option Addr) (n c n' c' : Nat), (binOp .eql 49 (.slice a n c) (.slice none n' c')).run Tryz.prog w = .ok (.bool a.isNone) w := fun w a n c n' c' => Lib.run_eql_slice_nil w _ _ a n c n' c' u28
  go_enter Tryz.func128, Tryz.ntmps128
  go_wp2_with (at_builtin; refine wpList_append_own _ rfl _ _ 49 rfl w.heap.size 135 i0 _ 2 24 u28 hi hz0 hz1 hz2 rfl (by decide) _ _ _ rfl (World.ownsRow_made w #[] 0 (Nat.le_refl _) (Nat.zero_le _) (by simp)) a 0 c [] rfl rfl (by simp) (by simp) (by decide) (by decide) (by simp) ?_)
  intro v' w1 hown hgrow hnil
  go_wp2
  go_ret
  refine ⟨v', rfl, by simpa using hown, ?_, ?_⟩
  · exact hnil
  · exact ((Below.refl _ w).alloc (Nat.le_refl _) _).grown hgrow (by simp) (by intro k hk; simp [Value.ownBlock] at hk; omega)

theorem cloE_contract (xs : List V) (r : V) (H' : Heap) (hx : cloneX 2 24 xs = some (r, H')) : Contract Tryz.prog 128 xs r H' :=
  clone_contract (e := 135) (fun n c w => AnyE.slices_Clone_nil cloE_lays n c w) (fun a c w => clo_zero a c w) (fun b off n c news w h1 h2 h3 h4 h5 => clo_some b off n c news w h1 h2 h3 h4 h5) xs r H' hx

end Go.Proofs

namespace Go.Proofs
open Go.RowKit Go.Shelf Go.Abs Go.Lib
set_option linter.unusedVariables false
set_option linter.unusedSimpArgs false

/-- copy of elements of any size into a row. -/
theorem run_copy_sz {P : Program} (w : World) (dT sT ty elem : TypeId) (i : TypeInfo) (g o dLen dCap : Nat) (a : Addr) (sLen sCap m : Nat) (cur : Array Value) (t : TypeId) (cs : List Value)
    (hu : P.underlying dT = some (.slice elem)) (hi : P.info? elem = some i) (hm : Nat.min sLen dLen = m)
    (hg : w.heap[g]? = some (.cells cur t (0, 0))) (hn : cs.length = m * i.size)
    (hsrc : ∀ j v, cs[j]? = some v → w.cell? (a.add j) = some v) (hfit : o + cs.length ≤ cur.size) (h1 : ∀ v ∈ cs, v.oneCell' = true) :
    (Builtin.copy_ #[dT, sT] ty #[.slice (some ⟨g, o, none⟩) dLen dCap, .slice (some a) sLen sCap]).run P w =
      .ok (goInt m) (w.setRow g (cur.toList.take o ++ cs ++ cur.toList.drop (o + cs.length)).toArray) := by
  have hl := run_loadCells_list (P := P) w a cs hsrc
  have hst := run_storeCells_at P g o t cs 0 cur w hg (by simpa using hfit) h1
  simp [Builtin.copy_, run_underlying hu, Builtin.lenOf, Builtin.firstCells, sizeOf, typeInfo, hi, hm, ← hn, hl, hst]

theorem i42 : (Tryz.prog.info? 135).map (fun i => (i.zero, i.size, i.bytes)) = some (some (.agg #[.string ⟨#[]⟩, .int .i64 0]), 2, 24) := by kernel_rfl
theorem u28 : Tryz.prog.underlying 49 = some (.slice 135) := by kernel_rfl
theorem u3i : Tryz.prog.underlying 3 = some (.int .i64) := by kernel_rfl

theorem two_cells {w : World} {vb : Nat} {x y : Value} (hx : w.cell? ⟨vb, 0, none⟩ = some x) (hy : w.cell? ⟨vb, 1, none⟩ = some y) (j : Nat) (u : Value) (hj : [x, y][j]? = some u) : w.cell? ((⟨vb, 0, none⟩ : Addr).add j) = some u := by
  match j, hj with
  | 0, hj => simp at hj; subst hj; exact hx
  | 1, hj => simp at hj; subst hj; exact hy
  | j + 2, hj => simp at hj

set_option maxHeartbeats 4000000 in
set_option maxRecDepth 100000 in
/-- At the end, room. -/
theorem ins_end_room (b n c vb vc : Nat) (x y : Value) (cur : Array Value) (t : TypeId) (w : World) (hroom : n + 1 ≤ c) (hc63 : c ≤ 9223372036854775807)
    (hb : w.heap[b]? = some (.cells cur t (0, 0))) (hsz : c * 2 ≤ cur.size) (hx : w.cell? ⟨vb, 0, none⟩ = some x) (hy : w.cell? ⟨vb, 1, none⟩ = some y) (h1x : x.oneCell' = true) (h1y : y.oneCell' = true) :
    Calls Tryz.prog 141 #[.slice (some ⟨b, 0, none⟩) n c, .int .i64 n, .slice (some ⟨vb, 0, none⟩) 1 vc] w fun e w' =>
      e = .returned (.slice (some ⟨b, 0, none⟩) (n + 1) c) ∧ w' = w.setCells b (n * 2) [x, y] := by
  obtain ⟨i0, hi, hz0, hz1, hz2⟩ := info_parts i42
  have hsrc : Src Tryz.prog i0.size 49 (.slice (some ⟨vb, 0, none⟩) 1 vc) 1 [x, y] w := by
    rw [hz1]
    exact Src.ofSlice (e' := 135) w u28 ⟨vb, 0, none⟩ 1 vc [x, y] rfl (two_cells hx hy) (by simp [h1x, h1y])
  have hrun : ∀ ty, (Builtin.append_ #[49, 49] ty #[.slice (some ⟨b, 0, none⟩) n c, .slice (some ⟨vb, 0, none⟩) 1 vc]).run Tryz.prog w = .ok (.slice (some ⟨b, 0, none⟩) (n + 1) c) (w.setCells b (n * 2) [x, y]) := fun ty => by
    have := run_append_room_src (P := Tryz.prog) w 49 49 ty 135 i0 u28 hi b 0 n c _ 1 [x, y] hsrc hroom (fun j hj => by
      rw [hz1, cell_at hb, Array.getElem?_eq_getElem (by simp at hj; omega)]; rfl) (fun j hj => frozen_at hb (Frz.none 2 _).1 (by rw [hz1]; simp at hj; omega))
    simpa [hz1] using this
  go_enter Tryz.func141, Tryz.ntmps141
  go_wp2_with (at_builtin; refine Lib.wpList_append_run _ rfl _ _ _ _ rfl _ _ rfl rfl _ _ (hrun _) ?_)
  all_goals (go_ret; exact ⟨rfl, rfl⟩)

set_option maxHeartbeats 4000000 in
set_option maxRecDepth 100000 in
/-- At the end, no room. -/
theorem ins_end_grow (base : Option Addr) (n c vb vc : Nat) (x y : Value) (cs : List Value) (w : World) (hnc : n ≤ c) (hroom : c < n + 1) (hbig : (n + 1) * 24 ≤ 140737488355328) (hcl : cs.length = n * 2) (hnil : base = none → n = 0)
    (hcs : ∀ a, base = some a → ∀ j v, cs[j]? = some v → w.cell? (a.add j) = some v) (hx : w.cell? ⟨vb, 0, none⟩ = some x) (hy : w.cell? ⟨vb, 1, none⟩ = some y) (h1x : x.oneCell' = true) (h1y : y.oneCell' = true) :
    Calls Tryz.prog 141 #[.slice base n c, .int .i64 n, .slice (some ⟨vb, 0, none⟩) 1 vc] w fun e w' =>
      e = .returned (.slice (some ⟨w.heap.size, 0, none⟩) (n + 1) (grownCap w (n + 1) c 135)) ∧
      w' = w.drew.alloc (.cells ((cs ++ [x, y]).toArray ++ Builtin.zeroCells (Value.agg #[.string ⟨#[]⟩, .int .i64 0]).cells (grownCap w (n + 1) c 135 - (n + 1))) 135) := by
  obtain ⟨i0, hi, hz0, hz1, hz2⟩ := info_parts i42
  have hsrc : Src Tryz.prog i0.size 49 (.slice (some ⟨vb, 0, none⟩) 1 vc) 1 [x, y] w := by
    rw [hz1]
    exact Src.ofSlice (e' := 135) w u28 ⟨vb, 0, none⟩ 1 vc [x, y] rfl (two_cells hx hy) (by simp [h1x, h1y])
  have hold : (Builtin.firstCells i0.size n (.slice base n c)).run Tryz.prog w.drew = .ok cs.toArray w.drew := by
    rw [hz1]
    cases base with
    | none =>
      have h0 := hnil rfl
      subst h0
      obtain rfl : cs = [] := List.length_eq_zero_iff.1 (by simpa using hcl)
      exact run_firstCells_none w.drew 2 0 0 c
    | some a => exact run_firstCells_some w.drew 2 n a n c cs (by omega) (fun j v hj => hcs a rfl j v hj)
  have hrun : ∀ ty, (Builtin.append_ #[49, 49] ty #[.slice base n c, .slice (some ⟨vb, 0, none⟩) 1 vc]).run Tryz.prog w = _ := fun ty =>
    run_append_grow_src w 49 49 ty 135 i0 _ u28 hi hz0 base n c cs hold _ 1 [x, y] hsrc hroom (by omega) (by rw [hz2]; exact growslice_fits hroom hbig)
  go_enter Tryz.func141, Tryz.ntmps141
  cases base with
  | none =>
    have h0 := hnil rfl
    subst h0
    go_wp2_with (at_builtin; refine Lib.wpList_append_run _ rfl _ _ _ _ rfl _ _ rfl rfl _ _ (hrun _) ?_)
    go_ret
    exact ⟨rfl, rfl⟩
  | some a =>
    obtain ⟨ab, ao, asp⟩ := a
    go_wp2_with (at_builtin; refine Lib.wpList_append_run _ rfl _ _ _ _ rfl _ _ rfl rfl _ _ (hrun _) ?_)
    all_goals (go_ret; exact ⟨rfl, rfl⟩)

/-- The row when the elements behind have been moved, and when the new one has been put. -/
def insA (cur : Array Value) (n i : Nat) : Array Value := (cur.toList.take ((i + 1) * 2) ++ (cur.toList.take (n * 2)).drop (i * 2) ++ cur.toList.drop ((i + 1) * 2 + ((cur.toList.take (n * 2)).drop (i * 2)).length)).toArray
def insB (cur : Array Value) (n i : Nat) (x y : Value) : Array Value := ((insA cur n i).toList.take (i * 2) ++ [x, y] ++ (insA cur n i).toList.drop (i * 2 + 2)).toArray

theorem insA_size {cur : Array Value} {n i : Nat} (h : (n + 1) * 2 ≤ cur.size) (hi : i < n) : (insA cur n i).size = cur.size := by
  have := Array.length_toList (xs := cur)
  simp only [insA, List.size_toArray, List.length_append, List.length_take, List.length_drop]
  omega

set_option maxHeartbeats 4000000 in
set_option maxRecDepth 100000 in
/-- Within, room. -/
theorem ins_shift (b n c i vb vc : Nat) (x y : Value) (cur vcur : Array Value) (t tv : TypeId) (w : World) (hin : i < n) (hroom : n + 1 ≤ c) (hc63 : c ≤ 9223372036854775807) (hvb : vb ≠ b)
    (hb : w.heap[b]? = some (.cells cur t (0, 0))) (hsz : c * 2 ≤ cur.size) (h1c : ∀ v ∈ cur.toList.take (n * 2), v.oneCell' = true) (hv : w.heap[vb]? = some (.cells vcur tv (0, 0))) (hx : vcur[0]? = some x) (hy : vcur[1]? = some y) (h1x : x.oneCell' = true) (h1y : y.oneCell' = true) :
    Calls Tryz.prog 141 #[.slice (some ⟨b, 0, none⟩) n c, .int .i64 i, .slice (some ⟨vb, 0, none⟩) 1 vc] w fun e w' =>
      e = .returned (.slice (some ⟨b, 0, none⟩) (n + 1) c) ∧ w' = (w.drew.setRow b (insA cur n i)).setRow b (insB cur n i x y) := by
  obtain ⟨i0, hi, hz0, hz1, hz2⟩ := info_parts i42
  have hz3 : ¬ ((i : Int) = (n : Int)) := by omega
  have hov : ∀ lb cb, (callFunc 174 #[.slice (some ⟨vb, 0, none⟩) 1 vc, .slice (some ⟨b, (i + 1) * 2, none⟩) lb cb]).run Tryz.prog w = .ok (.value (.bool false)) w := fun lb cb => by
    rw [run_callFunc_extern Tryz.func174 (by kernel_rfl) (by kernel_rfl) (by kernel_rfl) (e := Extern.SlicesOverlaps.overlaps #[49, 49] #[4]) (by kernel_rfl),
      Lib.run_overlaps_apart w 49 4 135 u28 2 (fun w => by simp [Go.sizeOf, typeInfo, hi, hz1]) ⟨vb, 0, none⟩ ⟨b, (i + 1) * 2, none⟩ 1 vc lb cb hvb tv t vcur.size cur.size (shape_at hv) (shape_at hb) (by omega) (by simp [World.frozen?, hv]) (by simp [World.frozen?, hv])]
    rfl
  have hcl : cur.toList.length = cur.size := Array.length_toList
  have hml : ((cur.toList.take (n * 2)).drop (i * 2)).length = (n - i) * 2 := by rw [List.length_drop, List.length_take]; omega
  have hcp1 : ∀ ty dc sc, (Builtin.copy_ #[49, 49] ty #[.slice (some ⟨b, (i + 1) * 2, none⟩) (n - i) dc, .slice (some ⟨b, i * 2, none⟩) (n + 1 - i) sc]).run Tryz.prog w.drew = .ok (goInt ((n - i : Nat) : Int)) (w.drew.setRow b (insA cur n i)) := fun ty dc sc => by
    have hb' : w.drew.heap[b]? = some (.cells cur t (0, 0)) := hb
    exact run_copy_sz w.drew _ _ ty 135 i0 b ((i + 1) * 2) (n - i) dc ⟨b, i * 2, none⟩ (n + 1 - i) sc (n - i) cur t ((cur.toList.take (n * 2)).drop (i * 2)) u28 hi (by simp only [Nat.min_def]; split <;> omega) hb' (by rw [hz1]; exact hml)
      (fun j v hj => by
        rw [add_at, cell_at hb']
        rw [List.getElem?_drop, List.getElem?_take] at hj
        split at hj
        · simpa using hj
        · cases hj) (by rw [hml]; omega) (fun v hv => h1c v (List.mem_of_mem_drop hv))
  have hA := insA_size (cur := cur) (n := n) (i := i) (by omega) hin
  have hcp2 : ∀ ty dc, (Builtin.copy_ #[49, 49] ty #[.slice (some ⟨b, i * 2, none⟩) (n + 1 - i) dc, .slice (some ⟨vb, 0, none⟩) 1 vc]).run Tryz.prog (w.drew.setRow b (insA cur n i)) = .ok (goInt 1) ((w.drew.setRow b (insA cur n i)).setRow b (insB cur n i x y)) := fun ty dc => by
    have hb' : (w.drew.setRow b (insA cur n i)).heap[b]? = some (.cells (insA cur n i) t (0, 0)) := setRow_heap w.drew b cur _ t _ hb
    have hv' : (w.drew.setRow b (insA cur n i)).heap[vb]? = some (.cells vcur tv (0, 0)) := (setRow_other w.drew b vb _ hvb).trans hv
    exact run_copy_sz _ _ _ ty 135 i0 b (i * 2) (n + 1 - i) dc ⟨vb, 0, none⟩ 1 vc 1 (insA cur n i) t [x, y] u28 hi (by simp only [Nat.min_def]; split <;> omega) hb' (by rw [hz1]; rfl)
      (two_cells (by rw [cell_at hv']; exact hx) (by rw [cell_at hv']; exact hy)) (by rw [hA]; simp; omega) (by simp [h1x, h1y])
  have hw1 : IntKind.i64.wrap ((i : Int) + 1) = (i : Int) + 1 := by rw [IntKind.wrap_i64]; omega
  have hw2 : IntKind.i64.wrap ((n : Int) + 1) = (n : Int) + 1 := by rw [IntKind.wrap_i64]; omega
  have hb1 : (0 : Int) ≤ (i : Int) + 1 := by omega
  have htn : ((i : Int) + 1).toNat = i + 1 := by omega
  have hb2 : ¬ (c = i + 1) := by omega
  have hb3 : (i : Int) ≤ (n : Int) + 1 := by omega
  have hb4 : ¬ (c = i) := by omega
  have hin' : i ≤ n := by omega
  have mixed : Tryz.prog.follows Departure.mixedOrders = true := by kernel_rfl
  generalize insA cur n i = A at *
  generalize insB cur n i x y = B at *
  go_enter Tryz.func141, Tryz.ntmps141
  go_wp2
  go_region_law_o (refine step_copy_runI rfl _ _ 49 49 rfl _ _ (by simp [Act.eval, Act.put]) (by simp [Act.eval, Act.put]) (hcp1 _ _ _) ?_)
  go_wp2_with (at_builtin; refine wpList_copy_runI _ rfl _ _ 49 49 rfl _ _ rfl rfl (hcp2 _ _) ?_)
  go_ret
  exact ⟨rfl, rfl⟩

/-- The new row: as it is made, with the new element, with what stood behind. -/
def insR (cur : Array Value) (n i G : Nat) : Array Value := (cur.toList.take (i * 2)).toArray ++ Builtin.zeroCells (Value.agg #[.string ⟨#[]⟩, .int .i64 0]).cells (n + 1 - i) ++ Builtin.zeroCells (Value.agg #[.string ⟨#[]⟩, .int .i64 0]).cells (G - (n + 1))
def insS (R : Array Value) (i : Nat) (x y : Value) : Array Value := (R.toList.take (i * 2) ++ [x, y] ++ R.toList.drop (i * 2 + 2)).toArray
def insT (S cur : Array Value) (n i : Nat) : Array Value := (S.toList.take ((i + 1) * 2) ++ (cur.toList.take (n * 2)).drop (i * 2) ++ S.toList.drop ((i + 1) * 2 + ((cur.toList.take (n * 2)).drop (i * 2)).length)).toArray

theorem insR_size {cur : Array Value} {n i G : Nat} (h : n * 2 ≤ cur.size) (hi : i < n) (hG : n + 1 ≤ G) : (insR cur n i G).size = G * 2 := by
  have := Array.length_toList (xs := cur)
  have hz : (Value.agg #[.string ⟨#[]⟩, .int .i64 0]).cells.size = 2 := rfl
  simp only [insR, Array.size_append, List.size_toArray, List.length_take, size_zeroCells, hz]
  omega

theorem insS_size {R : Array Value} {i : Nat} {x y : Value} (h : (i + 1) * 2 ≤ R.size) : (insS R i x y).size = R.size := by
  have := Array.length_toList (xs := R)
  simp only [insS, List.size_toArray, List.length_append, List.length_take, List.length_drop, List.length_cons, List.length_nil]
  omega

set_option maxHeartbeats 4000000 in
set_option maxRecDepth 100000 in
/-- Within, no room. -/
theorem ins_grow (b n c i vb vc : Nat) (x y : Value) (cur vcur : Array Value) (t tv : TypeId) (w : World) (hin : i < n) (hnc : n ≤ c) (hroom : c < n + 1) (hbig : (n + 1) * 24 ≤ 140737488355328)
    (hb : w.heap[b]? = some (.cells cur t (0, 0))) (hsz : c * 2 ≤ cur.size) (h1c : ∀ v ∈ cur.toList.take (n * 2), v.oneCell' = true) (hv : w.heap[vb]? = some (.cells vcur tv (0, 0))) (hx : vcur[0]? = some x) (hy : vcur[1]? = some y) (h1x : x.oneCell' = true) (h1y : y.oneCell' = true) :
    Calls Tryz.prog 141 #[.slice (some ⟨b, 0, none⟩) n c, .int .i64 i, .slice (some ⟨vb, 0, none⟩) 1 vc] w fun e w' =>
      ∃ G, G = grownCap w (n + 1) c 135 ∧ e = .returned (.slice (some ⟨w.heap.size, 0, none⟩) (n + 1) G) ∧
      w' = ((w.alloc (.cells (insR cur n i G) 135)).drew.setRow w.heap.size (insS (insR cur n i G) i x y)).drew.setRow w.heap.size (insT (insS (insR cur n i G) i x y) cur n i) := by
  obtain ⟨i0, hi, hz0, hz1, hz2⟩ := info_parts i42
  have hz3 : ¬ ((i : Int) = (n : Int)) := by omega
  have hz4 : (c : Int) < (n : Int) + 1 := by omega
  have hcl : cur.toList.length = cur.size := Array.length_toList
  have hbw : b < w.heap.size := (Array.getElem?_eq_some_iff.1 hb).1
  have hvw : vb < w.heap.size := (Array.getElem?_eq_some_iff.1 hv).1
  have hkk : (n : Int) + 1 - (i : Int) = ((n + 1 - i : Nat) : Int) := by omega
  have hik : i + (n + 1 - i) = n + 1 := by omega
  have hml : ((cur.toList.take (n * 2)).drop (i * 2)).length = (n - i) * 2 := by rw [List.length_drop, List.length_take]; omega
  have hold : (Builtin.firstCells i0.size i (.slice (some ⟨b, 0, none⟩) i c)).run Tryz.prog w.drew = .ok (cur.toList.take (i * 2)).toArray w.drew := by
    rw [hz1]
    exact run_firstCells_some w.drew 2 i ⟨b, 0, none⟩ i c (cur.toList.take (i * 2)) (by rw [List.length_take]; omega) (fun j v hj => by
      have hb' : w.drew.heap[b]? = some (.cells cur t (0, 0)) := hb
      rw [add_at, cell_at hb']
      rw [List.getElem?_take] at hj
      split at hj
      · simpa using hj
      · cases hj)
  have hrz : ∀ ty, (Builtin.append_ #[49, 3] ty #[.slice (some ⟨b, 0, none⟩) i c, .int .i64 ((n : Int) + 1 - (i : Int))]).run Tryz.prog w =
      .ok (.slice (some ⟨w.heap.size, 0, none⟩) (n + 1) (grownCap w (n + 1) c 135)) (w.alloc (.cells (insR cur n i (grownCap w (n + 1) c 135)) 135)).drew := fun ty => by
    have h := Lib.run_append_grow_zeros w 49 3 ty 135 i0 _ .i64 .i64 u28 u3i hi hz0 (some ⟨b, 0, none⟩) i c (cur.toList.take (i * 2)) hold (n + 1 - i) (by omega) (by omega) (by omega) (by omega) (by rw [hz2]; omega) (by rw [hz2, hik]; exact growslice_fits hroom hbig)
    rw [hik] at h
    rw [hkk]
    refine h.trans ?_
    rfl
  have hGn : n + 1 ≤ grownCap w (n + 1) c 135 := grownCap_ge w _ _ _
  have hG63 : grownCap w (n + 1) c 135 ≤ maxLen := grownCap_le_maxLen w (n + 1) c 135 (by unfold maxLen; omega)
  generalize hG : grownCap w (n + 1) c 135 = G at hrz hGn hG63
  have hRs := insR_size (cur := cur) (n := n) (i := i) (G := G) (by omega) hin hGn
  generalize hR : insR cur n i G = R at hrz hRs
  have hSs : (insS R i x y).size = R.size := insS_size (by omega)
  generalize hS : insS R i x y = S at hSs
  have hw0 : (w.alloc (.cells R 135)).drew.heap[w.heap.size]? = some (.cells R 135 (0, 0)) := heap_alloc_at w.drew _
  have hwv : (w.alloc (.cells R 135)).drew.heap[vb]? = some (.cells vcur tv (0, 0)) := (heap_alloc_lt w.drew _ vb hvw).trans hv
  have hwb : (w.alloc (.cells R 135)).drew.heap[b]? = some (.cells cur t (0, 0)) := (heap_alloc_lt w.drew _ b hbw).trans hb
  have hcpA : ∀ ty dc, (Builtin.copy_ #[49, 49] ty #[.slice (some ⟨w.heap.size, i * 2, none⟩) (n + 1 - i) dc, .slice (some ⟨vb, 0, none⟩) 1 vc]).run Tryz.prog (w.alloc (.cells R 135)).drew = .ok (goInt 1) ((w.alloc (.cells R 135)).drew.setRow w.heap.size S) := fun ty dc => by
    rw [← hS]
    exact run_copy_sz _ _ _ ty 135 i0 w.heap.size (i * 2) (n + 1 - i) dc ⟨vb, 0, none⟩ 1 vc 1 R 135 [x, y] u28 hi (by simp only [Nat.min_def]; split <;> omega) hw0 (by rw [hz1]; rfl)
      (two_cells (by rw [cell_at hwv]; exact hx) (by rw [cell_at hwv]; exact hy)) (by simp; omega) (by simp [h1x, h1y])
  have hh1 : (((w.alloc (.cells R 135)).drew.setRow w.heap.size S).drew).heap[w.heap.size]? = some (.cells S 135 (0, 0)) := setRow_heap _ _ R _ 135 _ hw0
  have hwb1 : (((w.alloc (.cells R 135)).drew.setRow w.heap.size S).drew).heap[b]? = some (.cells cur t (0, 0)) := (setRow_other _ _ b _ (by omega)).trans hwb
  have hcpB : ∀ ty dc sc, (Builtin.copy_ #[49, 49] ty #[.slice (some ⟨w.heap.size, (i + 1) * 2, none⟩) (n - i) dc, .slice (some ⟨b, i * 2, none⟩) (n - i) sc]).run Tryz.prog ((w.alloc (.cells R 135)).drew.setRow w.heap.size S).drew =
      .ok (goInt ((n - i : Nat) : Int)) (((w.alloc (.cells R 135)).drew.setRow w.heap.size S).drew.setRow w.heap.size (insT S cur n i)) := fun ty dc sc => by
    exact run_copy_sz _ _ _ ty 135 i0 w.heap.size ((i + 1) * 2) (n - i) dc ⟨b, i * 2, none⟩ (n - i) sc (n - i) S 135 ((cur.toList.take (n * 2)).drop (i * 2)) u28 hi (by simp [Nat.min_def]) hh1 (by rw [hz1]; exact hml)
      (fun j v hj => by
        rw [add_at, cell_at hwb1]
        rw [List.getElem?_drop, List.getElem?_take] at hj
        split at hj
        · simpa using hj
        · cases hj) (by rw [hml]; omega) (fun v hv => h1c v (List.mem_of_mem_drop hv))
  generalize hT : insT S cur n i = T at hcpB
  have hw1 : IntKind.i64.wrap ((i : Int) + 1) = (i : Int) + 1 := by rw [IntKind.wrap_i64]; omega
  have hw2 : IntKind.i64.wrap ((n : Int) + 1) = (n : Int) + 1 := by rw [IntKind.wrap_i64]; omega
  have hw3 : IntKind.i64.wrap ((n : Int) + 1 - (i : Int)) = (n : Int) + 1 - (i : Int) := by rw [IntKind.wrap_i64]; unfold maxLen at hG63; omega
  have hb1 : (0 : Int) ≤ (i : Int) + 1 := by omega
  have htn : ((i : Int) + 1).toNat = i + 1 := by omega
  have hb2 : ¬ (c = i) := by omega
  have hb3 : (i : Int) ≤ (n : Int) := by omega
  have hGi : ¬ (G = i) := by omega
  have hGim : ¬ (G = i + 1) := by omega
  have hb5 : (i : Int) ≤ (n : Int) + 1 := by omega
  have hin' : i ≤ n := by omega
  have hic : i ≤ c := by omega
  have mixed : Tryz.prog.follows Departure.mixedOrders = true := by kernel_rfl
  clear hkk hik hold hw0 hwv hwb hh1 hwb1
  go_enter Tryz.func141, Tryz.ntmps141
  go_wp2_with (first
    | (at_builtin; refine Lib.wpList_append_run _ rfl _ _ _ _ rfl _ _ rfl rfl _ _ (hrz _) ?_)
    | (at_builtin; refine wpList_copy_runI _ rfl _ _ 49 49 rfl _ _ rfl rfl (hcpA _ _) ?_))
  go_region_law_o (refine step_copy_runI rfl _ _ 49 49 rfl _ _ (by simp [Act.eval, Act.put]) (by simp [Act.eval, Act.put]) (hcpB _ _ _) ?_)
  go_wp2
  go_ret
  subst hT hS hR hG
  exact ⟨_, rfl, rfl, rfl⟩

theorem shape_alloc {w : World} {o : Obj} {d : Nat} {x : TypeId × Nat} (h : w.shape? d = some x) : (w.drew.alloc o).shape? d = some x := by
  have hd : d < w.heap.size := by
    unfold World.shape? at h
    cases hh : w.heap[d]? with
    | none => rw [hh] at h; cases h
    | some _ => exact (Array.getElem?_eq_some_iff.1 hh).1
  rw [shape_of_heap (heap_alloc_lt w.drew o d hd)]
  exact h

theorem zc42 : (Value.agg #[.string ⟨#[]⟩, .int .i64 0]).cells.size = 2 := rfl

theorem ins_nil (vb vc : Nat) (x y : Value) (w : World) (hx : w.cell? ⟨vb, 0, none⟩ = some x) (hy : w.cell? ⟨vb, 1, none⟩ = some y) (h1x : x.oneCell' = true) (h1y : y.oneCell' = true) :
    Calls Tryz.prog 141 #[.slice none 0 0, .int .i64 0, .slice (some ⟨vb, 0, none⟩) 1 vc] w fun e w' => ∃ g cap, e = .returned (.slice (some ⟨g, 0, none⟩) 1 cap) ∧ w.heap.size ≤ g ∧ InsDone w w' g g 1 cap [x, y] := by
  refine Calls.mono (ins_end_grow none 0 0 vb vc x y [] w (Nat.le_refl _) (by omega) (by omega) rfl (fun _ => rfl) (by simp) hx hy h1x h1y) ?_
  rintro e w' ⟨he, hw⟩
  subst hw
  have hg := grownCap_ge w (0 + 1) 0 135
  have hm := grownCap_le_maxLen w (0 + 1) 0 135 (by unfold maxLen; omega)
  generalize grownCap w (0 + 1) 0 135 = G at he hg hm ⊢
  refine ⟨w.heap.size, G, he, Nat.le_refl _, ⟨_, _, heap_alloc_at w.drew _, ?_, ?_⟩, .inl rfl, hg, hm, by simp, fun d hd hne => heap_alloc_lt w.drew _ d hd, fun d x h => shape_alloc h, rfl, rfl, rfl⟩
  · rw [Array.size_append, size_zeroCells, zc42]; simp; omega
  · simp

theorem ins_some (b n c i vb vc : Nat) (x y : Value) (cur vcur : Array Value) (t tv : TypeId) (w : World) (hin : i ≤ n) (hnc : n ≤ c) (hcm : c ≤ maxLen) (hbig : (n + 1) * 24 ≤ 140737488355328) (hvb : vb ≠ b) (hb : w.heap[b]? = some (.cells cur t (0, 0))) (hsz : c * 2 ≤ cur.size)
    (h1c : ∀ v ∈ cur.toList.take (n * 2), v.oneCell' = true) (hv : w.heap[vb]? = some (.cells vcur tv (0, 0))) (hx : vcur[0]? = some x) (hy : vcur[1]? = some y) (h1x : x.oneCell' = true) (h1y : y.oneCell' = true) :
    Calls Tryz.prog 141 #[.slice (some ⟨b, 0, none⟩) n c, .int .i64 i, .slice (some ⟨vb, 0, none⟩) 1 vc] w fun e w' => ∃ g cap, e = .returned (.slice (some ⟨g, 0, none⟩) (n + 1) cap) ∧
      InsDone w w' b g (n + 1) cap (cur.toList.take (i * 2) ++ [x, y] ++ (cur.toList.take (n * 2)).drop (i * 2)) := by
  have hcl : cur.toList.length = cur.size := Array.length_toList
  have hxc : w.cell? ⟨vb, 0, none⟩ = some x := by rw [cell_at hv]; exact hx
  have hyc : w.cell? ⟨vb, 1, none⟩ = some y := by rw [cell_at hv]; exact hy
  have hbl : b < w.heap.size := (Array.getElem?_eq_some_iff.1 hb).1
  have hml : ((cur.toList.take (n * 2)).drop (i * 2)).length = (n - i) * 2 := by rw [List.length_drop, List.length_take]; omega
  have htl : (cur.toList.take (i * 2)).length = i * 2 := by rw [List.length_take]; omega
  rcases Nat.lt_or_ge i n with hlt | hge
  · by_cases hr : n + 1 ≤ c
    · refine Calls.mono (ins_shift b n c i vb vc x y cur vcur t tv w hlt hr (by unfold maxLen at hcm; omega) hvb hb hsz h1c hv hx hy h1x h1y) ?_
      rintro e w' ⟨he, hw⟩
      subst hw
      have hA := insA_size (cur := cur) (n := n) (i := i) (by omega) hlt
      have hB : (insB cur n i x y).size = cur.size := by
        have := Array.length_toList (xs := insA cur n i)
        simp only [insB, List.size_toArray, List.length_append, List.length_take, List.length_drop, List.length_cons, List.length_nil]
        omega
      have h1 : (w.drew.setRow b (insA cur n i)).heap[b]? = some (.cells (insA cur n i) t (0, 0)) := setRow_heap w.drew b cur _ t _ hb
      refine ⟨b, c, he, ⟨_, t, setRow_heap _ b _ _ t _ h1, by rw [hB]; exact hsz, ?_⟩, .inl rfl, hr, hcm, by simp, fun d hd hne => (setRow_other _ b d _ hne).trans (setRow_other _ b d _ hne), fun d x h => ?_, rfl, rfl, rfl⟩
      · -- what the row holds
        have e1 : (insA cur n i).toList.take (i * 2) = cur.toList.take (i * 2) := by
          simp only [insA]
          rw [List.append_assoc, List.take_append_of_le_length (by rw [List.length_take]; omega), List.take_take]
          congr 1
          omega
        have e2 : ((insA cur n i).toList.drop (i * 2 + 2)).take ((n - i) * 2) = (cur.toList.take (n * 2)).drop (i * 2) := by
          simp only [insA]
          rw [List.append_assoc, List.drop_append_of_le_length (by rw [List.length_take]; omega), List.drop_of_length_le (by rw [List.length_take]; omega), List.nil_append, List.take_append_of_le_length (by rw [hml]; exact Nat.le_refl _), List.take_of_length_le (by rw [hml]; exact Nat.le_refl _)]
        simp only [insB]
        rw [e1, List.append_assoc, List.append_assoc, List.take_append, List.take_of_length_le (by rw [htl]; omega), htl]
        congr 1
        have e3 : (n + 1) * 2 - i * 2 = 2 + (n - i) * 2 := by omega
        rw [e3]
        show (x :: y :: (insA cur n i).toList.drop (i * 2 + 2)).take (2 + (n - i) * 2) = _
        rw [Nat.add_comm 2, List.take_succ_cons, List.take_succ_cons, e2]
        rfl
      · by_cases hdb : d = b
        · subst hdb
          rw [shape_at hb] at h
          cases h
          rw [shape_at (setRow_heap _ d _ _ t _ h1), hB]
        · rw [shape_of_heap ((setRow_other _ b d _ hdb).trans (setRow_other _ b d _ hdb))]
          exact h
    · refine Calls.mono (ins_grow b n c i vb vc x y cur vcur t tv w hlt hnc (by omega) hbig hb hsz h1c hv hx hy h1x h1y) ?_
      rintro e w' ⟨G, hG, he, hw⟩
      subst hw
      have hg := grownCap_ge w (n + 1) c 135
      have hm := grownCap_le_maxLen w (n + 1) c 135 (by unfold maxLen; omega)
      rw [← hG] at hg hm
      have hR := insR_size (cur := cur) (n := n) (i := i) (G := G) (by omega) hlt hg
      generalize hRR : insR cur n i G = R at hR ⊢
      have hS := insS_size (R := R) (i := i) (x := x) (y := y) (by omega)
      have hRt : R.toList.take (i * 2) = cur.toList.take (i * 2) := by
        rw [← hRR]
        simp only [insR, Array.toList_append]
        rw [List.append_assoc, List.take_append_of_le_length (by rw [htl]; exact Nat.le_refl _), List.take_of_length_le (by rw [htl]; exact Nat.le_refl _)]
      have hSt : (insS R i x y).toList.take ((i + 1) * 2) = cur.toList.take (i * 2) ++ [x, y] := by
        simp only [insS]
        rw [hRt, List.take_append_of_le_length (by simp [htl]; omega), List.take_of_length_le (by simp [htl]; omega)]
      generalize insS R i x y = S at hS hSt ⊢
      have hSl := Array.length_toList (xs := S)
      have hT : (insT S cur n i).size = S.size := by
        simp only [insT, List.size_toArray, List.length_append, List.length_take, List.length_drop]
        omega
      have h0 : ((w.alloc (.cells R 135)).drew).heap[w.heap.size]? = some (.cells R 135 (0, 0)) := heap_alloc_at w _
      have h1 : (((w.alloc (.cells R 135)).drew.setRow w.heap.size S).drew).heap[w.heap.size]? = some (.cells S 135 (0, 0)) := setRow_heap _ _ R _ 135 _ h0
      have old : ∀ d, d < w.heap.size → (((w.alloc (.cells R 135)).drew.setRow w.heap.size S).drew.setRow w.heap.size (insT S cur n i)).heap[d]? = w.heap[d]? := fun d hd =>
        (setRow_other _ _ d _ (by omega)).trans ((setRow_other _ _ d _ (by omega)).trans (heap_alloc_lt w _ d hd))
      refine ⟨w.heap.size, G, he, ⟨_, 135, setRow_heap _ _ S _ 135 _ h1, by rw [hT, hS, hR]; exact Nat.le_refl _, ?_⟩, .inr (Nat.le_refl _), hg, hm, by simp, fun d hd _ => old d hd, fun d x h => ?_, rfl, rfl, rfl⟩
      · simp only [insT]
        rw [hSt, List.take_append_of_le_length (by simp [htl, hml]; omega), List.take_of_length_le (by simp [htl, hml]; omega)]
      · have hd : d < w.heap.size := by
          unfold World.shape? at h
          cases hh : w.heap[d]? with
          | none => rw [hh] at h; cases h
          | some _ => exact (Array.getElem?_eq_some_iff.1 hh).1
        rw [shape_of_heap (old d hd)]
        exact h
  · obtain rfl : i = n := by omega
    have hd0 : (cur.toList.take (i * 2)).drop (i * 2) = [] := by rw [List.drop_of_length_le (by rw [htl]; exact Nat.le_refl _)]
    rw [hd0, List.append_nil]
    by_cases hr : i + 1 ≤ c
    · refine Calls.mono (ins_end_room b i c vb vc x y cur t w hr (by unfold maxLen at hcm; omega) hb hsz hxc hyc h1x h1y) ?_
      rintro e w' ⟨he, hw⟩
      subst hw
      obtain ⟨g1, g2, g3⟩ := setCells_row (c := b) (t := t) (fr := (0, 0)) [x, y] (i * 2) cur w hb (by simp; omega)
      have hsize : (cur.toList.take (i * 2) ++ [x, y] ++ cur.toList.drop (i * 2 + [x, y].length)).toArray.size = cur.size := by simp; omega
      refine ⟨b, c, he, ⟨_, t, g1, by rw [hsize]; exact hsz, ?_⟩, .inl rfl, hr, hcm, by rw [g2]; exact Nat.le_refl _, fun d hd hne => g3 d hne, fun d z h => ?_, rfl, rfl, rfl⟩
      · rw [List.take_append_of_le_length (by simp [htl]; omega), List.take_of_length_le (by simp [htl]; omega)]
      · by_cases hdb : d = b
        · subst hdb
          rw [shape_at hb] at h
          cases h
          rw [shape_at g1, hsize]
        · rw [shape_of_heap (g3 d hdb)]
          exact h
    · refine Calls.mono (ins_end_grow (some ⟨b, 0, none⟩) i c vb vc x y (cur.toList.take (i * 2)) w hnc (by omega) hbig htl (by simp) (fun a ha j v hj => ?_) hxc hyc h1x h1y) ?_
      · cases ha
        rw [add_at, Nat.zero_add, cell_at hb]
        rw [List.getElem?_take] at hj
        split at hj
        · simpa using hj
        · cases hj
      · rintro e w' ⟨he, hw⟩
        subst hw
        have hg := grownCap_ge w (i + 1) c 135
        have hm := grownCap_le_maxLen w (i + 1) c 135 (by unfold maxLen; omega)
        generalize grownCap w (i + 1) c 135 = G at he hg hm ⊢
        refine ⟨w.heap.size, G, he, ⟨_, _, heap_alloc_at w.drew _, ?_, ?_⟩, .inr (Nat.le_refl _), hg, hm, by simp, fun d hd hne => heap_alloc_lt w.drew _ d hd, fun d x h => shape_alloc h, rfl, rfl, rfl⟩
        · rw [Array.size_append, size_zeroCells, zc42, List.size_toArray, List.length_append, htl]; simp; omega
        · rw [Array.toList_append, List.take_append_of_le_length (by simp [htl]; omega), List.take_of_length_le (by simp [htl]; omega)]

theorem ins_contract (args : List V) (H : Heap) (r : V) (H' : Heap) (hx : insAtX 24 args H = some (r, H')) (base : Nat) (Z : Nat → Prop) (φ : Abs.Place) (w : World) (cargs : Array Value) (I : Inv base Z φ H w) (ha : ArgsRel φ (Wr φ H Z) w args cargs) :
    Calls Tryz.prog 141 cargs w (fun e w' => ∃ v, e = .returned v ∧ Turns base Z φ H w H' r v w') :=
  insAt_contract (by decide) ins_nil ins_some args H r H' hx base Z φ w cargs I ha

end Go.Proofs

namespace Go.Proofs
open Go.RowKit Go.Shelf Go.Abs
attribute [local go_sem] Oper.semAt_some

section
variable {F : Fence} {n : Nat} {P : Program}

/-- The record of a loop over a function. -/
def recOf (fn : FuncId) (tmps : Array Value) (ps : Array Tmp) (assign body : Code) (D : Nat) (st : LoopState) (pe : Option Code) : Loop :=
  { state := st, pending := pe, fn, tmps, params := ps, assign, body, defers := D }

-- The statement
set_option maxHeartbeats 80000 in
theorem rangeFunc_gen {g : Operand} {ps : Array Tmp} {assign body : Code} {Q : Exit → Act → World → Prop} {a : Act} {w : World}
    (hro : F.round = none) (h1 : 1 ≤ n) {gf : Nat} {lb : Array Value} (hg : a.eval g = .func (.func gf) #[] lb) (hFg : F.fn gf) (eg : ∀ args w, (callFunc gf args).run P w = .ok (.enter gf args) w)
    (hcall : ∀ fn, F.fn fn → CallsIn F (n - 1) P gf (#[.func (.yield (w.heap.size + 1)) #[] #[]] ++ lb) ((w.alloc (.deferred (some []))).alloc (.loop (recOf fn a.tmps ps assign body w.heap.size .ready none)))
      fun e W2 => (∃ v, e = .returned v) ∧ ∃ st pe, st ≠ .busy ∧ W2.heap[w.heap.size + 1]? = some (.loop (recOf fn a.tmps ps assign body w.heap.size st pe)) ∧
        (match pe with
         | none => Q .normal { a with defers := { target := .collected w.heap.size, args := #[] } :: a.defers } (W2.putObj (w.heap.size + 1) (.loop (recOf fn a.tmps ps assign body w.heap.size .exhausted pe)))
         | some c => c.wpIn F n P Q { a with defers := { target := .collected w.heap.size, args := #[] } :: a.defers } (W2.putObj (w.heap.size + 1) (.loop (recOf fn a.tmps ps assign body w.heap.size .exhausted pe))))) :
    (Code.rangeFunc g ps assign body).wpIn F n P Q a w := by
  refine wpIn_rangeFunc ?_
  intro fn hfn
  rw [hro]
  have hent : (Instr.enterLoop fn a.tmps ps assign body none).run P w = .ok (w.heap.size + 1, [{ target := .collected w.heap.size, args := #[] }]) ((w.alloc (.deferred (some []))).alloc (.loop (recOf fn a.tmps ps assign body w.heap.size .ready none))) := run_enterLoop_outer fn a.tmps ps assign body
  have hcl := hcall fn hfn
  generalize hW1 : (w.alloc (.deferred (some []))).alloc (.loop (recOf fn a.tmps ps assign body w.heap.size .ready none)) = W1 at hent hcl
  have h4 : (resolve a.eval (rangeCall g (w.heap.size + 1)) 0).run P W1 = .ok { target := .fn (.func gf) lb, args := #[.func (.yield (w.heap.size + 1)) #[] #[]] } W1 := by
    simp only [resolve, hg]
    simp [go_sem]
  have h5 : (invoke (.fn (.func gf) lb) #[.func (.yield (w.heap.size + 1)) #[] #[]]).run P W1 = .ok (.enter gf (#[.func (.yield (w.heap.size + 1)) #[] #[]] ++ lb)) W1 := by simp [invoke, go_sem, eg]
  have h6 : ∀ f', Target.leads P W1 (.fn (.func gf) lb) #[.func (.yield (w.heap.size + 1)) #[] #[]] = some f' → F.fn f' := by
    intro f' hf'; simp [Target.leads] at hf'; subst hf'; exact hFg
  refine ⟨w.heap.size + 1, [{ target := .collected w.heap.size, args := #[] }], W1, { target := .fn (.func gf) lb, args := #[.func (.yield (w.heap.size + 1)) #[] #[]] }, W1, gf,
    #[.func (.yield (w.heap.size + 1)) #[] #[]] ++ lb, W1, ?_, ?_, ?_, ?_, fun _ => h1, ?_⟩
  · exact hent
  · exact h4
  · exact h6
  · exact h5
  refine CallsIn.mono hcl ?_
  intro e W2 h
  obtain ⟨⟨v, he⟩, st, pe, hst, hl, hp⟩ := h
  subst he
  have hend := run_endLoop (P := P) hl hst
  refine ⟨pe, _, hend, ?_⟩
  cases pe with
  | none => exact hp
  | some c => exact hp

theorem rangeFunc_rec {g : Operand} {ps : Array Tmp} {assign body : Code} {Q : Exit → Act → World → Prop} {a : Act} {w : World}
    (hro : F.round = none) (h1 : 1 ≤ n) {gf : Nat} {lb : Array Value} (hg : a.eval g = .func (.func gf) #[] lb) (hFg : F.fn gf) (eg : ∀ args w, (callFunc gf args).run P w = .ok (.enter gf args) w)
    (hcall : ∀ (fn : FuncId) (R : LoopState → Option Code → Loop), F.fn fn → R = recOf fn a.tmps ps assign body w.heap.size → CallsIn F (n - 1) P gf (#[.func (.yield (w.heap.size + 1)) #[] #[]] ++ lb) ((w.alloc (.deferred (some []))).alloc (.loop (R .ready none)))
      fun e W2 => (∃ v, e = .returned v) ∧ ∃ st pe, st ≠ .busy ∧ W2.heap[w.heap.size + 1]? = some (.loop (R st pe)) ∧
        (match pe with
         | none => Q .normal { a with defers := { target := .collected w.heap.size, args := #[] } :: a.defers } (W2.putObj (w.heap.size + 1) (.loop (R .exhausted pe)))
         | some c => c.wpIn F n P Q { a with defers := { target := .collected w.heap.size, args := #[] } :: a.defers } (W2.putObj (w.heap.size + 1) (.loop (R .exhausted pe))))) :
    (Code.rangeFunc g ps assign body).wpIn F n P Q a w :=
  rangeFunc_gen hro h1 hg hFg eg fun fn hfn => hcall fn _ hfn rfl

/-- One round. -/
theorem yield_gen {fn : FuncId} {tmps : Array Value} {ps : Array Tmp} {assign body : Code} {D l m : Nat} {x : Value} {W : World} {R : Ending → World → Prop} (hfn : F.fn fn)
    (hl : W.heap[l]? = some (.loop (recOf fn tmps ps assign body D .ready none))) (hps : ps.size = 1) (a₁ : Act)
    (hassign : ∀ (K : Act → World → Prop), K a₁ W → assign.wpIn (F.inRound l) m P (Exit.then K (fun _ _ _ => False)) { tmps := (ps.zip #[x]).foldl (fun t (p, v) => t.setIfInBounds p v) tmps, defers := [] } W)
    (hbody : body.wpIn (F.inRound l) m P (fun e _ W3 => match e with
      | .normal => W3.heap[l]? = some (.loop (recOf fn tmps ps assign body D .busy none)) ∧ R (.returned (.bool true)) (W3.putObj l (.loop (recOf fn tmps ps assign body D .ready none)))
      | .ret => W3.heap[l]? = some (.loop (recOf fn tmps ps assign body D .busy none)) ∧ R (.returned (.bool false)) (W3.putObj l (.loop (recOf fn tmps ps assign body D .done (some .ret))))
      | _ => False) a₁ (W.putObj l (.loop (recOf fn tmps ps assign body D .busy none)))) :
    YieldAt F m P l #[x] W R := by
  refine ⟨fn, _, assign, body, run_yield (P := P) (args := #[x]) hl (by simp [recOf, hps]), roundIn_of_wpIn hfn (hassign _ ⟨_, run_beginRound hl rfl, ?_⟩)⟩
  refine wpIn_mono hbody ?_
  rintro e a3 W3 hp
  cases e with
  | normal => exact ⟨_, _, run_endRound none hp.1, hp.2⟩
  | ret => exact ⟨_, _, run_endRound (some .ret) hp.1, hp.2⟩
  | exit id => exact hp.elim
  | goto t => exact hp.elim
  | panic ch => exact hp.elim
  | outgrown => exact hp.elim

theorem yield_rec {fn : FuncId} {tmps : Array Value} {ps : Array Tmp} {assign body : Code} {D l m : Nat} {x : Value} {W : World} {R : Ending → World → Prop} {S : LoopState → Option Code → Loop} (hS : S = recOf fn tmps ps assign body D) (hfn : F.fn fn)
    (hl : W.heap[l]? = some (.loop (S .ready none))) (hps : ps.size = 1) (a₁ : Act)
    (hassign : ∀ (K : Act → World → Prop), K a₁ W → assign.wpIn (F.inRound l) m P (Exit.then K (fun _ _ _ => False)) { tmps := (ps.zip #[x]).foldl (fun t (p, v) => t.setIfInBounds p v) tmps, defers := [] } W)
    (hbody : body.wpIn (F.inRound l) m P (fun e _ W3 => match e with
      | .normal => W3.heap[l]? = some (.loop (S .busy none)) ∧ R (.returned (.bool true)) (W3.putObj l (.loop (S .ready none)))
      | .ret => W3.heap[l]? = some (.loop (S .busy none)) ∧ R (.returned (.bool false)) (W3.putObj l (.loop (S .done (some .ret))))
      | _ => False) a₁ (W.putObj l (.loop (S .busy none)))) :
    YieldAt F m P l #[x] W R := by
  subst hS
  exact yield_gen hfn hl hps a₁ hassign hbody

end

def stv (s : List UInt8) : Value := .string ⟨s.toArray⟩

theorem calls_of_contract {P : Program} {f : FuncId} {xs : List V} {r : V} {cargs : Array Value} {w : World} (hc : Contract P f xs r []) (ha : ArgsRel pure0 (Wr pure0 [] fun _ => False) w xs cargs) :
    Calls P f cargs w fun e w' => ∃ v, e = .returned v ∧ Below w.heap.size w w' ∧ ∃ φ W, VRel φ W w' r v := by
  refine Calls.mono (hc w.heap.size (fun _ => False) w cargs (inv_empty fun c h => h.elim) ha) ?_
  rintro e w' ⟨v, he, φ', h⟩
  exact ⟨v, he, h.step.below, _, _, h.rel⟩

theorem args_strs {W : Nat → Prop} {w : World} (a b : List UInt8) : ArgsRel pure0 W w [.str a, .str b] #[stv a, stv b] := by
  refine ⟨rfl, fun i x c hx hc => ?_⟩
  match i with
  | 0 => simp at hx hc; subst hx; subst hc; exact .str a
  | 1 => simp at hx hc; subst hx; subst hc; exact .str b
  | i+2 => simp at hx

theorem args_str {W : Nat → Prop} {w : World} (a : List UInt8) : ArgsRel pure0 W w [.str a] #[stv a] := by
  refine ⟨rfl, fun i x c hx hc => ?_⟩
  match i with
  | 0 => simp at hx hc; subst hx; subst hc; exact .str a
  | i+1 => simp at hx

set_option maxRecDepth 100000 in
set_option maxHeartbeats 1000000 in
theorem parts_in (F : Fence) (n : Nat) (h26 : F.fn 165) (hro : F.round = none) (s : ByteArray) (w : World) :
    CallsIn F n Tryz.prog 165 #[.string s] w fun e w' => e = .returned (.func (.func 187) #[] #[.pointer (some ⟨w.heap.size, 0, none⟩)]) ∧ w' = w.alloc (.cells #[.string s] 9) := by
  refine callsIn_of_wp Tryz.func165 rfl h26 ?_ hro
  simp only [Tryz.ntmps165, List.size_toArray, List.length_cons, List.length_nil, Nat.reduceAdd, Nat.reduceSub, Array.replicate_succ, Array.replicate_zero, List.push_toArray, List.append_toArray, List.nil_append, List.cons_append]
  gi_wp2
  go_ret
  exact ⟨rfl, rfl⟩

theorem tuple3 {φ : Abs.Place} {W : Nat → Prop} {w : World} {a b : List UInt8} {f : Bool} {v : Value} (h : VRel φ W w (.tuple [.str a, .str b, .bool f]) v) : v = .tuple #[stv a, stv b, .bool f] := by
  cases h with
  | tuple _ vs hl h =>
    obtain ⟨vs⟩ := vs
    match vs, hl with
    | [x, y, z], _ =>
      have h0 := h 0 _ _ rfl rfl
      have h1 := h 1 _ _ rfl rfl
      have h2 := h 2 _ _ rfl rfl
      cases h0; cases h1; cases h2; rfl

/-- How many bytes the box's string has. -/
def boxLen (B : Nat) (W : World) : Nat := match W.cell? ⟨B, 0, none⟩ with
  | some (.string b) => b.size
  | _ => 0

theorem boxLen_eq {B : Nat} {W : World} {p : List UInt8} (h : Boxed W B 9 (stv p)) : boxLen B W = p.length := by
  unfold boxLen; rw [h.cell]; simp [stv, ByteArray.size]

theorem cutB_lt {s : List UInt8} (h : s ≠ []) : (cutB s).length < s.length := by
  unfold cutB
  have h1 : (s.dropWhile (· != 47)).length ≤ s.length := (List.dropWhile_sublist _).length_le
  rw [List.length_drop]
  have : 0 < s.length := List.length_pos_iff.2 h
  omega

theorem partsF_cons {s : List UInt8} (h : s ≠ []) : ∀ n, s.length ≤ n → partsF n s = (if cutA s = [] then [] else [cutA s]) ++ partsF (cutB s).length (cutB s) := by
  have key : ∀ n m (t : List UInt8), t.length ≤ n → t.length ≤ m → partsF n t = partsF m t := by
    intro n
    induction n with
    | zero => intro m t h1 h2; have : t = [] := List.eq_nil_of_length_eq_zero (by omega); subst this; cases m <;> rfl
    | succ n ih =>
      intro m t h1 h2
      by_cases ht : t = []
      · subst ht; cases m <;> rfl
      · have hl := cutB_lt ht
        have hp := List.length_pos_iff.2 ht
        obtain ⟨m, rfl⟩ : ∃ k, m = k + 1 := ⟨m - 1, by omega⟩
        simp only [partsF, if_neg ht]
        rw [ih m (cutB t) (by omega) (by omega)]
  intro n hn
  have hp := List.length_pos_iff.2 h
  obtain ⟨n, rfl⟩ : ∃ k, n = k + 1 := ⟨n - 1, by omega⟩
  have hl := cutB_lt h
  simp only [partsF, if_neg h]
  rw [key n (cutB s).length (cutB s) (by omega) (Nat.le_refl _)]
  split <;> simp

theorem partsF_le : ∀ n s, (partsF n s).length ≤ n
  | 0, _ => Nat.le_refl _
  | n + 1, s => by
    have h := partsF_le n (cutB s)
    unfold partsF
    split
    · simp
    · split
      · omega
      · simp; omega

theorem parts_room {s p : List UInt8} {ns : List (List UInt8)} (hx : partsF s.length s = ns ++ partsF p.length p) : ns.length ≤ s.length := by
  have h := partsF_le s.length s
  rw [hx] at h
  simp at h
  omega

set_option maxRecDepth 100000 in
set_option maxHeartbeats 1000000 in
theorem iter_in (F : Fence) (n : Nat) (hC : ∀ m f args w R, Calls Tryz.prog f args w R → CallsIn F m Tryz.prog f args w R) (h43 : F.fn 187) (h44 : F.fn 188) (hro : F.round = none) (hn : 1 ≤ n) (l B : Nat) (J : List UInt8 → List (List UInt8) → World → Prop) (Jx : World → Prop) (ok : List UInt8 → Bool)
    (hcut : ∀ s : List UInt8, s.length ≤ 256 → ∃ f, Contract Tryz.prog 188 [.str s, .str [47]] (.tuple [.str (cutA s), .str (cutB s), .bool f]) [])
    (hJc : ∀ p ns W, J p ns W → Boxed W B 9 (stv p))
    (hJset : ∀ p q ns W, J p ns W → J q ns (W.setCell ⟨B, 0, none⟩ (stv q)))
    (hJcut : ∀ p ns W W', J p ns W → Below W.heap.size W W' → J p ns W')
    (s : List UInt8) (hs : s.length ≤ 256) (hY : ∀ p ns x W, J p ns W → x.length ≤ 256 → ns.length ≤ s.length → YieldAt F (n - 1) Tryz.prog l #[stv x] W fun e W' =>
      (e = .returned (.bool true) ∧ ok x = true ∧ J p (ns ++ [x]) W') ∨ (e = .returned (.bool false) ∧ ok x = false ∧ Jx W'))
    (W : World) (h0 : J s [] W) :
    CallsIn F n Tryz.prog 187 #[.func (.yield l) #[] #[], .pointer (some ⟨B, 0, none⟩)] W fun e W' => (∃ v, e = .returned v) ∧
      (((partsF s.length s).all ok = true ∧ J [] (partsF s.length s) W') ∨ ((partsF s.length s).all ok = false ∧ Jx W')) := by
  refine callsIn_of_wp Tryz.func187 rfl h43 ?_ hro
  simp only [Tryz.ntmps187, List.size_toArray, List.length_cons, List.length_nil, Nat.reduceAdd, Nat.reduceSub, Array.replicate_succ, Array.replicate_zero, List.push_toArray, List.append_toArray, List.nil_append, List.cons_append]
  gi_wp2
  gi_loopw [3] (fun _ wr => ∃ (p : List UInt8) (ns : List (List UInt8)), p.length ≤ 256 ∧ partsF s.length s = ns ++ partsF p.length p ∧ ns.all ok = true ∧ J p ns wr) (fun _ wr => boxLen B wr)
  case atStart =>
    exact ⟨s, [], hs, rfl, rfl, h0⟩
  case round =>
    obtain ⟨p, ns, hp, hx, hall, hJ⟩ := hrel
    have hc : wr.cell? ⟨B, 0, none⟩ = some (.string ⟨p.toArray⟩) := (hJc _ _ _ hJ).cell
    have hfz := (hJc _ _ _ hJ).frozen
    gi_wp2_with (gi_at_call 188; obtain ⟨f, hct⟩ := hcut p hp; refine (hC _ _ _ _ _ (calls_of_contract hct (args_strs p [47]))).mono ?_; rintro e w1 ⟨v, rfl, hb1, φ1, W1, hv⟩; obtain rfl := tuple3 hv; have hJ1 := hJcut _ _ _ _ hJ hb1; have hc1 : w1.cell? ⟨B, 0, none⟩ = some (.string ⟨p.toArray⟩) := (hJc _ _ _ hJ1).cell; have hfz1 := (hJc _ _ _ hJ1).frozen; have hJ2 := hJset _ (cutB p) _ _ hJ1; obtain ⟨fn, tmps, assign, body, hy, hR⟩ := hY _ _ (cutA p) _ hJ2 (Nat.le_trans (List.takeWhile_sublist _).length_le hp) (parts_room hx); simp only [stv] at hy hR hJ2 ⊢)
    · refine ⟨(by intro f h; cases h), ?_⟩
      have hA : cutA p = [] := by simp_all
      have hpe : p ≠ [] := by simp_all
      gi_wp2
      go_roundw
      case rel => exact ⟨cutB p, ns, Nat.le_trans (Nat.le_of_lt (cutB_lt hpe)) hp, by rw [hx, partsF_cons hpe _ (Nat.le_refl _), if_pos hA, List.nil_append], hall, hJ2⟩
      case measure => rw [boxLen_eq (hJc _ _ _ hJ2), boxLen_eq (hJc _ _ _ hJ)]; exact cutB_lt hpe
    · have hA : cutA p ≠ [] := by simp_all
      have hpe : p ≠ [] := by simp_all
      refine hR.mono ?_
      rintro e W3 (⟨rfl, ho, hJ3⟩ | ⟨rfl, ho, hJ3⟩)
      · gi_wp2
        refine ⟨⟨cutB p, ns ++ [cutA p], Nat.le_trans (Nat.le_of_lt (cutB_lt hpe)) hp, by rw [hx, partsF_cons hpe _ (Nat.le_refl _), if_neg hA, List.append_assoc], by simp [hall, ho], hJ3⟩, ?_⟩
        rw [boxLen_eq (hJc _ _ _ hJ3), boxLen_eq (hJc _ _ _ hJ)]; exact cutB_lt hpe
      · gi_wp2
        · refine bodyPost_ret (results_none rfl _ _ _) rfl ?_
          exact ⟨⟨_, rfl⟩, .inr ⟨by rw [hx, partsF_cons hpe _ (Nat.le_refl _), if_neg hA]; simp [ho], hJ3⟩⟩
        · simp_all
    · go_end0
      have hpe : p = [] := by simp_all
      subst hpe
      have hx' : partsF s.length s = ns := by rw [hx]; simp [partsF]
      rw [hx']
      exact ⟨⟨_, rfl⟩, .inl ⟨hall, hJ⟩⟩

/-- What Split's blocks hold: the results' boxes, the names', the path's, the deferred calls', the loop's record. -/
structure SpJ (w : World) (R : Loop) (k : Int) (p : List UInt8) (ns : List (List UInt8)) (W : World) : Prop where
  b0 : Boxed W w.heap.size 4 (.bool false)
  b1 : Boxed W (w.heap.size + 1) 22 (.slice none 0 0)
  b2 : Boxed W (w.heap.size + 1 + 1) 31 (.int .i64 k)
  b3 : ∃ v, Boxed W (w.heap.size + 1 + 1 + 1) 22 v ∧ W.ownsRow (w.heap.size + 7) 9 1 v ns.length (ns.map stv)
  b4 : Boxed W (w.heap.size + 1 + 1 + 1 + 1) 9 (stv p)
  b5 : W.heap[w.heap.size + 1 + 1 + 1 + 1 + 1]? = some (.deferred (some []))
  b6 : W.heap[w.heap.size + 1 + 1 + 1 + 1 + 1 + 1]? = some (.loop R)
  below : Below w.heap.size w W

theorem ownsRow_below {W W' : World} {base : Nat} {e : TypeId} {size : Nat} {v : Value} {n : Nat} {xs : List Value} (h : W.ownsRow base e size v n xs) (hb : Below W.heap.size W W') : W'.ownsRow base e size v n xs :=
  h.kept (row := none) ⟨hb.os, hb.tape, hb.output, hb.size, fun k hk _ => hb.block k hk⟩ (by cases hv : v.ownBlock <;> simp)

theorem boxed_below {W W' : World} {B : Nat} {t : TypeId} {v : Value} (h : Boxed W B t v) (hb : Below W.heap.size W W') : Boxed W' B t v := (hb.block _ h.lt).trans h

theorem SpJ.keep {w : World} {R : Loop} {k : Int} {p : List UInt8} {ns : List (List UInt8)} {W W' : World} (h : SpJ w R k p ns W) (hb : Below W.heap.size W W') : SpJ w R k p ns W' where
  b0 := boxed_below h.b0 hb
  b1 := boxed_below h.b1 hb
  b2 := boxed_below h.b2 hb
  b3 := by obtain ⟨v, h1, h2⟩ := h.b3; exact ⟨v, boxed_below h1 hb, ownsRow_below h2 hb⟩
  b4 := boxed_below h.b4 hb
  b5 := (hb.block _ (Array.getElem?_eq_some_iff.1 h.b5).1).trans h.b5
  b6 := (hb.block _ (Array.getElem?_eq_some_iff.1 h.b6).1).trans h.b6
  below := h.below.trans (hb.mono h.below.size)

theorem boxed_other {W : World} {B c : Nat} {t : TypeId} {v u : Value} (h : Boxed W B t v) (hne : B ≠ c) : Boxed (W.setCell ⟨c, 0, none⟩ u) B t v := (Below.heap_setCell W ⟨c, 0, none⟩ u B hne).trans h

theorem SpJ.setp {w : World} {R : Loop} {k : Int} {p q : List UInt8} {ns : List (List UInt8)} {W : World} (h : SpJ w R k p ns W) : SpJ w R k q ns (W.setCell ⟨w.heap.size + 1 + 1 + 1 + 1, 0, none⟩ (stv q)) where
  b0 := boxed_other h.b0 (by omega)
  b1 := boxed_other h.b1 (by omega)
  b2 := boxed_other h.b2 (by omega)
  b3 := by obtain ⟨v, h1, h2⟩ := h.b3; exact ⟨v, boxed_other h1 (by omega), ownsRow_setCell_below h2 (by show w.heap.size + 1 + 1 + 1 + 1 < _; omega) _⟩
  b4 := h.b4.set _
  b5 := (Below.heap_setCell W ⟨w.heap.size + 1 + 1 + 1 + 1, 0, none⟩ _ _ (by show _ ≠ w.heap.size + 1 + 1 + 1 + 1; omega)).trans h.b5
  b6 := (Below.heap_setCell W ⟨w.heap.size + 1 + 1 + 1 + 1, 0, none⟩ _ _ (by show _ ≠ w.heap.size + 1 + 1 + 1 + 1; omega)).trans h.b6
  below := h.below.setCell (p := ⟨w.heap.size + 1 + 1 + 1 + 1, 0, none⟩) (by show _ ≤ w.heap.size + 1 + 1 + 1 + 1; omega) _


theorem SpJ.putRec {w : World} {R R' : Loop} {k : Int} {p : List UInt8} {ns : List (List UInt8)} {W : World} (h : SpJ w R k p ns W) : SpJ w R' k p ns (W.putObj (w.heap.size + 1 + 1 + 1 + 1 + 1 + 1) (.loop R')) where
  b0 := (World.putObj_heap_other (by omega)).trans h.b0
  b1 := (World.putObj_heap_other (by omega)).trans h.b1
  b2 := (World.putObj_heap_other (by omega)).trans h.b2
  b3 := by obtain ⟨v, h1, h2⟩ := h.b3; exact ⟨v, (World.putObj_heap_other (by omega)).trans h1, ownsRow_putObj h2 _ h.b6 rfl⟩
  b4 := (World.putObj_heap_other (by omega)).trans h.b4
  b5 := (World.putObj_heap_other (by omega)).trans h.b5
  b6 := World.putObj_heap_same (Array.getElem?_eq_some_iff.1 h.b6).1
  below := h.below.trans ⟨rfl, rfl, rfl, by simp, fun k hk => World.putObj_heap_other (by omega)⟩

theorem SpJ.start (w : World) (s : List UInt8) (R : Loop) :
    SpJ w R 0 s [] (((((((w.alloc (.cells #[.bool false] 4)).alloc (.cells #[.slice none 0 0] 22)).alloc (.cells #[.int .i64 0] 31)).alloc (.cells #[.slice none 0 0] 22)).alloc (.cells #[stv s] 9)).alloc (.deferred (some []))).alloc (.loop R)) := by
  have hs : ∀ (k : Nat) (o : Obj) (W : World), k < W.heap.size → (W.alloc o).heap[k]? = W.heap[k]? := fun k o W h => Below.heap_alloc W o k h
  have hn : ∀ (W : World) (o : Obj), (W.alloc o).heap[W.heap.size]? = some o := World.alloc_heap_new
  have z : ∀ (W : World) (o : Obj), (W.alloc o).heap.size = W.heap.size + 1 := fun W o => World.size_alloc ..
  have f0 : (((((((w.alloc (.cells #[.bool false] 4)).alloc (.cells #[.slice none 0 0] 22)).alloc (.cells #[.int .i64 0] 31)).alloc (.cells #[.slice none 0 0] 22)).alloc (.cells #[stv s] 9)).alloc (.deferred (some []))).alloc (.loop R)).heap[w.heap.size]? = some (.cells #[.bool false] 4) := by
    rw [hs (w.heap.size) (.loop R) ((((((w.alloc (.cells #[.bool false] 4)).alloc (.cells #[.slice none 0 0] 22)).alloc (.cells #[.int .i64 0] 31)).alloc (.cells #[.slice none 0 0] 22)).alloc (.cells #[stv s] 9)).alloc (.deferred (some []))) (by simp only [z]; omega), hs (w.heap.size) (.deferred (some [])) (((((w.alloc (.cells #[.bool false] 4)).alloc (.cells #[.slice none 0 0] 22)).alloc (.cells #[.int .i64 0] 31)).alloc (.cells #[.slice none 0 0] 22)).alloc (.cells #[stv s] 9)) (by simp only [z]; omega), hs (w.heap.size) (.cells #[stv s] 9) ((((w.alloc (.cells #[.bool false] 4)).alloc (.cells #[.slice none 0 0] 22)).alloc (.cells #[.int .i64 0] 31)).alloc (.cells #[.slice none 0 0] 22)) (by simp only [z]; omega), hs (w.heap.size) (.cells #[.slice none 0 0] 22) (((w.alloc (.cells #[.bool false] 4)).alloc (.cells #[.slice none 0 0] 22)).alloc (.cells #[.int .i64 0] 31)) (by simp only [z]; omega), hs (w.heap.size) (.cells #[.int .i64 0] 31) ((w.alloc (.cells #[.bool false] 4)).alloc (.cells #[.slice none 0 0] 22)) (by simp only [z]; omega), hs (w.heap.size) (.cells #[.slice none 0 0] 22) (w.alloc (.cells #[.bool false] 4)) (by simp only [z]; omega)]
    have h := hn w (.cells #[.bool false] 4)
    simpa only [z] using h
  have f1 : (((((((w.alloc (.cells #[.bool false] 4)).alloc (.cells #[.slice none 0 0] 22)).alloc (.cells #[.int .i64 0] 31)).alloc (.cells #[.slice none 0 0] 22)).alloc (.cells #[stv s] 9)).alloc (.deferred (some []))).alloc (.loop R)).heap[w.heap.size + 1]? = some (.cells #[.slice none 0 0] 22) := by
    rw [hs (w.heap.size + 1) (.loop R) ((((((w.alloc (.cells #[.bool false] 4)).alloc (.cells #[.slice none 0 0] 22)).alloc (.cells #[.int .i64 0] 31)).alloc (.cells #[.slice none 0 0] 22)).alloc (.cells #[stv s] 9)).alloc (.deferred (some []))) (by simp only [z]; omega), hs (w.heap.size + 1) (.deferred (some [])) (((((w.alloc (.cells #[.bool false] 4)).alloc (.cells #[.slice none 0 0] 22)).alloc (.cells #[.int .i64 0] 31)).alloc (.cells #[.slice none 0 0] 22)).alloc (.cells #[stv s] 9)) (by simp only [z]; omega), hs (w.heap.size + 1) (.cells #[stv s] 9) ((((w.alloc (.cells #[.bool false] 4)).alloc (.cells #[.slice none 0 0] 22)).alloc (.cells #[.int .i64 0] 31)).alloc (.cells #[.slice none 0 0] 22)) (by simp only [z]; omega), hs (w.heap.size + 1) (.cells #[.slice none 0 0] 22) (((w.alloc (.cells #[.bool false] 4)).alloc (.cells #[.slice none 0 0] 22)).alloc (.cells #[.int .i64 0] 31)) (by simp only [z]; omega), hs (w.heap.size + 1) (.cells #[.int .i64 0] 31) ((w.alloc (.cells #[.bool false] 4)).alloc (.cells #[.slice none 0 0] 22)) (by simp only [z]; omega)]
    have h := hn (w.alloc (.cells #[.bool false] 4)) (.cells #[.slice none 0 0] 22)
    simpa only [z] using h
  have f2 : (((((((w.alloc (.cells #[.bool false] 4)).alloc (.cells #[.slice none 0 0] 22)).alloc (.cells #[.int .i64 0] 31)).alloc (.cells #[.slice none 0 0] 22)).alloc (.cells #[stv s] 9)).alloc (.deferred (some []))).alloc (.loop R)).heap[w.heap.size + 1 + 1]? = some (.cells #[.int .i64 0] 31) := by
    rw [hs (w.heap.size + 1 + 1) (.loop R) ((((((w.alloc (.cells #[.bool false] 4)).alloc (.cells #[.slice none 0 0] 22)).alloc (.cells #[.int .i64 0] 31)).alloc (.cells #[.slice none 0 0] 22)).alloc (.cells #[stv s] 9)).alloc (.deferred (some []))) (by simp only [z]; omega), hs (w.heap.size + 1 + 1) (.deferred (some [])) (((((w.alloc (.cells #[.bool false] 4)).alloc (.cells #[.slice none 0 0] 22)).alloc (.cells #[.int .i64 0] 31)).alloc (.cells #[.slice none 0 0] 22)).alloc (.cells #[stv s] 9)) (by simp only [z]; omega), hs (w.heap.size + 1 + 1) (.cells #[stv s] 9) ((((w.alloc (.cells #[.bool false] 4)).alloc (.cells #[.slice none 0 0] 22)).alloc (.cells #[.int .i64 0] 31)).alloc (.cells #[.slice none 0 0] 22)) (by simp only [z]; omega), hs (w.heap.size + 1 + 1) (.cells #[.slice none 0 0] 22) (((w.alloc (.cells #[.bool false] 4)).alloc (.cells #[.slice none 0 0] 22)).alloc (.cells #[.int .i64 0] 31)) (by simp only [z]; omega)]
    have h := hn ((w.alloc (.cells #[.bool false] 4)).alloc (.cells #[.slice none 0 0] 22)) (.cells #[.int .i64 0] 31)
    simpa only [z] using h
  have f3 : (((((((w.alloc (.cells #[.bool false] 4)).alloc (.cells #[.slice none 0 0] 22)).alloc (.cells #[.int .i64 0] 31)).alloc (.cells #[.slice none 0 0] 22)).alloc (.cells #[stv s] 9)).alloc (.deferred (some []))).alloc (.loop R)).heap[w.heap.size + 1 + 1 + 1]? = some (.cells #[.slice none 0 0] 22) := by
    rw [hs (w.heap.size + 1 + 1 + 1) (.loop R) ((((((w.alloc (.cells #[.bool false] 4)).alloc (.cells #[.slice none 0 0] 22)).alloc (.cells #[.int .i64 0] 31)).alloc (.cells #[.slice none 0 0] 22)).alloc (.cells #[stv s] 9)).alloc (.deferred (some []))) (by simp only [z]; omega), hs (w.heap.size + 1 + 1 + 1) (.deferred (some [])) (((((w.alloc (.cells #[.bool false] 4)).alloc (.cells #[.slice none 0 0] 22)).alloc (.cells #[.int .i64 0] 31)).alloc (.cells #[.slice none 0 0] 22)).alloc (.cells #[stv s] 9)) (by simp only [z]; omega), hs (w.heap.size + 1 + 1 + 1) (.cells #[stv s] 9) ((((w.alloc (.cells #[.bool false] 4)).alloc (.cells #[.slice none 0 0] 22)).alloc (.cells #[.int .i64 0] 31)).alloc (.cells #[.slice none 0 0] 22)) (by simp only [z]; omega)]
    have h := hn (((w.alloc (.cells #[.bool false] 4)).alloc (.cells #[.slice none 0 0] 22)).alloc (.cells #[.int .i64 0] 31)) (.cells #[.slice none 0 0] 22)
    simpa only [z] using h
  have f4 : (((((((w.alloc (.cells #[.bool false] 4)).alloc (.cells #[.slice none 0 0] 22)).alloc (.cells #[.int .i64 0] 31)).alloc (.cells #[.slice none 0 0] 22)).alloc (.cells #[stv s] 9)).alloc (.deferred (some []))).alloc (.loop R)).heap[w.heap.size + 1 + 1 + 1 + 1]? = some (.cells #[stv s] 9) := by
    rw [hs (w.heap.size + 1 + 1 + 1 + 1) (.loop R) ((((((w.alloc (.cells #[.bool false] 4)).alloc (.cells #[.slice none 0 0] 22)).alloc (.cells #[.int .i64 0] 31)).alloc (.cells #[.slice none 0 0] 22)).alloc (.cells #[stv s] 9)).alloc (.deferred (some []))) (by simp only [z]; omega), hs (w.heap.size + 1 + 1 + 1 + 1) (.deferred (some [])) (((((w.alloc (.cells #[.bool false] 4)).alloc (.cells #[.slice none 0 0] 22)).alloc (.cells #[.int .i64 0] 31)).alloc (.cells #[.slice none 0 0] 22)).alloc (.cells #[stv s] 9)) (by simp only [z]; omega)]
    have h := hn ((((w.alloc (.cells #[.bool false] 4)).alloc (.cells #[.slice none 0 0] 22)).alloc (.cells #[.int .i64 0] 31)).alloc (.cells #[.slice none 0 0] 22)) (.cells #[stv s] 9)
    simpa only [z] using h
  have f5 : (((((((w.alloc (.cells #[.bool false] 4)).alloc (.cells #[.slice none 0 0] 22)).alloc (.cells #[.int .i64 0] 31)).alloc (.cells #[.slice none 0 0] 22)).alloc (.cells #[stv s] 9)).alloc (.deferred (some []))).alloc (.loop R)).heap[w.heap.size + 1 + 1 + 1 + 1 + 1]? = some (.deferred (some [])) := by
    rw [hs (w.heap.size + 1 + 1 + 1 + 1 + 1) (.loop R) ((((((w.alloc (.cells #[.bool false] 4)).alloc (.cells #[.slice none 0 0] 22)).alloc (.cells #[.int .i64 0] 31)).alloc (.cells #[.slice none 0 0] 22)).alloc (.cells #[stv s] 9)).alloc (.deferred (some []))) (by simp only [z]; omega)]
    have h := hn (((((w.alloc (.cells #[.bool false] 4)).alloc (.cells #[.slice none 0 0] 22)).alloc (.cells #[.int .i64 0] 31)).alloc (.cells #[.slice none 0 0] 22)).alloc (.cells #[stv s] 9)) (.deferred (some []))
    simpa only [z] using h
  have f6 : (((((((w.alloc (.cells #[.bool false] 4)).alloc (.cells #[.slice none 0 0] 22)).alloc (.cells #[.int .i64 0] 31)).alloc (.cells #[.slice none 0 0] 22)).alloc (.cells #[stv s] 9)).alloc (.deferred (some []))).alloc (.loop R)).heap[w.heap.size + 1 + 1 + 1 + 1 + 1 + 1]? = some (.loop R) := by
    have h := hn ((((((w.alloc (.cells #[.bool false] 4)).alloc (.cells #[.slice none 0 0] 22)).alloc (.cells #[.int .i64 0] 31)).alloc (.cells #[.slice none 0 0] 22)).alloc (.cells #[stv s] 9)).alloc (.deferred (some []))) (.loop R)
    simpa only [z] using h
  exact ⟨f0, f1, f2, ⟨_, f3, World.ownsRow_nil _ _ _ _⟩, f4, f5, f6, (((((((Below.refl _ w).alloc (Nat.le_refl _) _).alloc (by simp only [z]; omega) _).alloc (by simp only [z]; omega) _).alloc (by simp only [z]; omega) _).alloc (by simp only [z]; omega) _).alloc (by simp only [z]; omega) _).alloc (by simp only [z]; omega) _⟩

theorem info9t : (Tryz.prog.info? 9).map (fun i => (i.zero, i.size, i.bytes)) = some (some (.string ⟨#[]⟩), 1, 16) := by kernel_rfl

theorem enters_of43 : ∀ args w, (callFunc 187 args).run Tryz.prog w = .ok (.enter 187 args) w := enters_of Tryz.func187 (by kernel_rfl) rfl


theorem SpJ.append {w : World} {R : Loop} {k : Int} {p x : List UInt8} {ns : List (List UInt8)} {W w1 : World} {v v' : Value} {tmp : Obj} (h : SpJ w R k p ns W) (hv : Boxed W (w.heap.size + 1 + 1 + 1) 22 v) (hrow : W.ownsRow (w.heap.size + 7) 9 1 v ns.length (ns.map stv))
    (hown' : w1.ownsRow (w.heap.size + 7) 9 1 v' (ns.length + 1) (ns.map stv ++ [stv x])) (hgrow : (W.alloc tmp).grownBy w1 v.ownBlock) : Boxed w1 (w.heap.size + 1 + 1 + 1) 22 v ∧ SpJ w R k p (ns ++ [x]) (w1.setCell ⟨w.heap.size + 1 + 1 + 1, 0, none⟩ v') := by
  have hsz : w.heap.size + 7 ≤ W.heap.size := by have := (Array.getElem?_eq_some_iff.1 h.b6).1; omega
  obtain ⟨hv1, hv2, hr2, _, hb2⟩ := hv.appended (n₀ := w.heap.size + 1 + 1 + 1) (e := 9) (size := 1) (by decide) ⟨hrow.1, hrow.2.imp id fun ⟨g, cap, cur, a, b, c⟩ => ⟨g, cap, cur, a, by omega, c⟩⟩ (by omega) (Nat.le_refl _)
    ⟨hown'.1, hown'.2.imp id fun ⟨g, cap, cur, a, b, c⟩ => ⟨g, cap, cur, a, by omega, c⟩⟩ hgrow
  have hne : ∀ j, j < w.heap.size + 7 → some j ≠ v.ownBlock := fun j hj e => by
    rcases hrow.2 with ⟨rfl, _⟩ | ⟨g, cap, cur, rfl, hb, _, _⟩
    · simp [Value.ownBlock] at e
    · simp [Value.ownBlock] at e; omega
  have keep : ∀ j, j < w.heap.size + 7 → j ≠ w.heap.size + 1 + 1 + 1 → (w1.setCell ⟨w.heap.size + 1 + 1 + 1, 0, none⟩ v').heap[j]? = W.heap[j]? := fun j hj hn => by
    rw [Below.heap_setCell _ _ _ _ (by show j ≠ w.heap.size + 1 + 1 + 1; exact hn), hgrow.block j (by simp; omega) (hne j hj)]
    exact Below.heap_alloc W tmp j (by omega)
  have hr3 : (w1.setCell ⟨w.heap.size + 1 + 1 + 1, 0, none⟩ v').ownsRow (w.heap.size + 7) 9 1 v' (ns ++ [x]).length ((ns ++ [x]).map stv) := by
    have := ownsRow_setCell_below hown' (a := ⟨w.heap.size + 1 + 1 + 1, 0, none⟩) (by show w.heap.size + 1 + 1 + 1 < _; omega) v'
    simpa using this
  exact ⟨hv1, (keep _ (by omega) (by omega)).trans h.b0, (keep _ (by omega) (by omega)).trans h.b1, (keep _ (by omega) (by omega)).trans h.b2, ⟨v', hv2, hr3⟩, (keep _ (by omega) (by omega)).trans h.b4, (keep _ (by omega) (by omega)).trans h.b5, (keep _ (by omega) (by omega)).trans h.b6,
    h.below.trans (hb2.mono (by omega))⟩

theorem SpJ.err {w : World} {R : Loop} {p : List UInt8} {ns : List (List UInt8)} {W : World} (h : SpJ w R 0 p ns W) :
    SpJ w R 4 p ns (((W.setCell ⟨w.heap.size, 0, none⟩ (.bool false)).setCell ⟨w.heap.size + 1, 0, none⟩ (.slice none 0 0)).setCell ⟨w.heap.size + 1 + 1, 0, none⟩ (.int .i64 4)) where
  b0 := boxed_other (boxed_other (h.b0.set _) (by omega)) (by omega)
  b1 := boxed_other ((boxed_other h.b1 (by omega)).set _) (by omega)
  b2 := (boxed_other (boxed_other h.b2 (by omega)) (by omega)).set _
  b3 := by obtain ⟨v, h1, h2⟩ := h.b3; exact ⟨v, boxed_other (boxed_other (boxed_other h1 (by omega)) (by omega)) (by omega), ownsRow_setCell_below (ownsRow_setCell_below (ownsRow_setCell_below h2 (by show w.heap.size < _; omega) _) (by show w.heap.size + 1 < _; omega) _) (by show w.heap.size + 1 + 1 < _; omega) _⟩
  b4 := boxed_other (boxed_other (boxed_other h.b4 (by omega)) (by omega)) (by omega)
  b5 := (Below.heap_setCell _ ⟨w.heap.size + 1 + 1, 0, none⟩ _ _ (by show _ ≠ w.heap.size + 1 + 1; omega)).trans ((Below.heap_setCell _ ⟨w.heap.size + 1, 0, none⟩ _ _ (by show _ ≠ w.heap.size + 1; omega)).trans ((Below.heap_setCell W ⟨w.heap.size, 0, none⟩ _ _ (by show _ ≠ w.heap.size; omega)).trans h.b5))
  b6 := (Below.heap_setCell _ ⟨w.heap.size + 1 + 1, 0, none⟩ _ _ (by show _ ≠ w.heap.size + 1 + 1; omega)).trans ((Below.heap_setCell _ ⟨w.heap.size + 1, 0, none⟩ _ _ (by show _ ≠ w.heap.size + 1; omega)).trans ((Below.heap_setCell W ⟨w.heap.size, 0, none⟩ _ _ (by show _ ≠ w.heap.size; omega)).trans h.b6))
  below := ((h.below.setCell (p := ⟨w.heap.size, 0, none⟩) (Nat.le_refl _) _).setCell (p := ⟨w.heap.size + 1, 0, none⟩) (by show _ ≤ w.heap.size + 1; omega) _).setCell (p := ⟨w.heap.size + 1 + 1, 0, none⟩) (by show _ ≤ w.heap.size + 1 + 1; omega) _

theorem load_box {W : World} {B t : Nat} {v : Value} (h : Boxed W B t v) (ty : TypeId) (ha : ∀ w, (isAgg ty).run Tryz.prog w = .ok false w) : (loadVar ty ⟨B, 0, none⟩).run Tryz.prog W = .ok v W := by
  have hc := h.cell
  simp [loadVar, ha, load, Sem.run, hc]

theorem res9 {tmps : Array Value} {W : World} {B : Nat} {v0 v1 v2 : Value} (h2 : tmps[2]? = some (.pointer (some ⟨B, 0, none⟩))) (h3 : tmps[3]? = some (.pointer (some ⟨B + 1, 0, none⟩))) (h4 : tmps[4]? = some (.pointer (some ⟨B + 1 + 1, 0, none⟩)))
    (b0 : Boxed W B 4 v0) (b1 : Boxed W (B + 1) 22 v1) (b2 : Boxed W (B + 1 + 1) 31 v2) : (results Tryz.f123 tmps).run Tryz.prog W = .ok (.tuple #[v0, v1, v2]) W := by
  have e0 := load_box b0 4 Tryz.isAgg4
  have e1 := load_box b1 22 Tryz.isAgg22
  have e2 := load_box b2 31 Tryz.isAgg31
  have hr : Tryz.f123.results = #[.cell 2 4, .cell 3 22, .cell 4 31] := rfl
  simp only [results, hr]
  simp [h2, h3, h4, asAddr, e0, e1, e2]

theorem three (w : World) (v0 v1 v2 : Value) : Boxed (((w.alloc (.cells #[v0] 4)).alloc (.cells #[v1] 22)).alloc (.cells #[v2] 31)) w.heap.size 4 v0 ∧ Boxed (((w.alloc (.cells #[v0] 4)).alloc (.cells #[v1] 22)).alloc (.cells #[v2] 31)) (w.heap.size + 1) 22 v1 ∧
    Boxed (((w.alloc (.cells #[v0] 4)).alloc (.cells #[v1] 22)).alloc (.cells #[v2] 31)) (w.heap.size + 1 + 1) 31 v2 ∧ Below w.heap.size w (((w.alloc (.cells #[v0] 4)).alloc (.cells #[v1] 22)).alloc (.cells #[v2] 31)) := by
  have z : ∀ (W : World) (o : Obj), (W.alloc o).heap.size = W.heap.size + 1 := fun W o => World.size_alloc ..
  have hs : ∀ (k : Nat) (o : Obj) (W : World), k < W.heap.size → (W.alloc o).heap[k]? = W.heap[k]? := fun k o W h => Below.heap_alloc W o k h
  have a0 := World.alloc_heap_new w (.cells #[v0] 4)
  have a1 := World.alloc_heap_new (w.alloc (.cells #[v0] 4)) (.cells #[v1] 22)
  have a2 := World.alloc_heap_new ((w.alloc (.cells #[v0] 4)).alloc (.cells #[v1] 22)) (.cells #[v2] 31)
  simp only [z] at a1 a2
  refine ⟨?_, ?_, a2, (((Below.refl _ w).alloc (Nat.le_refl _) _).alloc (by rw [z]; omega) _).alloc (by rw [z, z]; omega) _⟩
  · show _ = _
    rw [hs _ _ _ (by rw [z, z]; omega), hs _ _ _ (by rw [z]; omega)]
    exact a0
  · show _ = _
    rw [hs _ _ _ (by rw [z, z]; omega)]
    exact a1

theorem boxed_put {W : World} {B t l : Nat} {v : Value} {o : Obj} (h : Boxed W B t v) (hne : B ≠ l) : Boxed (W.putObj l o) B t v := (World.putObj_heap_other (by omega)).trans h
theorem below_put {n l : Nat} (W : World) (o : Obj) (h : n ≤ l) : Below n W (W.putObj l o) := ⟨rfl, rfl, rfl, by simp, fun k hk => World.putObj_heap_other (by omega)⟩

theorem ownsRow_drew {W : World} {base : Nat} {e : TypeId} {size : Nat} {v : Value} {n : Nat} {xs : List Value} (h : W.ownsRow base e size v n xs) : W.drew.ownsRow base e size v n xs := h

theorem SpJ.fin {w : World} {R : Loop} {p : List UInt8} {ns : List (List UInt8)} {W : World} {v3 : Value} (h : SpJ w R 0 p ns W) (hrow : W.ownsRow (w.heap.size + 7) 9 1 v3 ns.length (ns.map stv)) (b : Bool) :
    Boxed (((W.setCell ⟨w.heap.size, 0, none⟩ (.bool b)).setCell ⟨w.heap.size + 1, 0, none⟩ v3).setCell ⟨w.heap.size + 1 + 1, 0, none⟩ (.int .i64 0)).drew w.heap.size 4 (.bool b) ∧
    Boxed (((W.setCell ⟨w.heap.size, 0, none⟩ (.bool b)).setCell ⟨w.heap.size + 1, 0, none⟩ v3).setCell ⟨w.heap.size + 1 + 1, 0, none⟩ (.int .i64 0)).drew (w.heap.size + 1) 22 v3 ∧
    Boxed (((W.setCell ⟨w.heap.size, 0, none⟩ (.bool b)).setCell ⟨w.heap.size + 1, 0, none⟩ v3).setCell ⟨w.heap.size + 1 + 1, 0, none⟩ (.int .i64 0)).drew (w.heap.size + 1 + 1) 31 (.int .i64 0) ∧
    (((W.setCell ⟨w.heap.size, 0, none⟩ (.bool b)).setCell ⟨w.heap.size + 1, 0, none⟩ v3).setCell ⟨w.heap.size + 1 + 1, 0, none⟩ (.int .i64 0)).drew.heap[w.heap.size + 1 + 1 + 1 + 1 + 1]? = some (.deferred (some [])) ∧
    (((W.setCell ⟨w.heap.size, 0, none⟩ (.bool b)).setCell ⟨w.heap.size + 1, 0, none⟩ v3).setCell ⟨w.heap.size + 1 + 1, 0, none⟩ (.int .i64 0)).drew.ownsRow (w.heap.size + 7) 9 1 v3 ns.length (ns.map stv) ∧
    Below w.heap.size w (((W.setCell ⟨w.heap.size, 0, none⟩ (.bool b)).setCell ⟨w.heap.size + 1, 0, none⟩ v3).setCell ⟨w.heap.size + 1 + 1, 0, none⟩ (.int .i64 0)).drew := by
  refine ⟨boxed_other (boxed_other (h.b0.set _) (by omega)) (by omega), boxed_other ((boxed_other h.b1 (by omega)).set _) (by omega), (boxed_other (boxed_other h.b2 (by omega)) (by omega)).set _, ?_, ?_, ?_⟩
  · exact (Below.heap_setCell _ ⟨w.heap.size + 1 + 1, 0, none⟩ _ _ (by show _ ≠ w.heap.size + 1 + 1; omega)).trans ((Below.heap_setCell _ ⟨w.heap.size + 1, 0, none⟩ _ _ (by show _ ≠ w.heap.size + 1; omega)).trans ((Below.heap_setCell W ⟨w.heap.size, 0, none⟩ _ _ (by show _ ≠ w.heap.size; omega)).trans h.b5))
  · exact ownsRow_drew (ownsRow_setCell_below (ownsRow_setCell_below (ownsRow_setCell_below hrow (by show w.heap.size < _; omega) _) (by show w.heap.size + 1 < _; omega) _) (by show w.heap.size + 1 + 1 < _; omega) _)
  · exact Below.drew (((h.below.setCell (p := ⟨w.heap.size, 0, none⟩) (Nat.le_refl _) _).setCell (p := ⟨w.heap.size + 1, 0, none⟩) (by show _ ≤ w.heap.size + 1; omega) _).setCell (p := ⟨w.heap.size + 1 + 1, 0, none⟩) (by show _ ≤ w.heap.size + 1 + 1; omega) _)

/-- What Split leaves. -/
def SpPost (ok : List UInt8 → Bool) (s : List UInt8) (w : World) (e : Ending) (w' : World) : Prop :=
  Below w.heap.size w w' ∧ ((s = [] ∧ e = .returned (.tuple #[.bool false, .slice none 0 0, .int .i64 4])) ∨ (s ≠ [] ∧ 256 < s.length ∧ e = .returned (.tuple #[.bool false, .slice none 0 0, .int .i64 7])) ∨
    (s ≠ [] ∧ s.length ≤ 256 ∧ (partsF s.length s).all ok = false ∧ e = .returned (.tuple #[.bool false, .slice none 0 0, .int .i64 4])) ∨
    (s ≠ [] ∧ s.length ≤ 256 ∧ (partsF s.length s).all ok = true ∧ ∃ v, e = .returned (.tuple #[.bool (s.head? == some 47), v, .int .i64 0]) ∧ w'.ownsRow w.heap.size 9 1 v (partsF s.length s).length ((partsF s.length s).map stv)))

theorem spFinish {n : Nat} {ok : List UInt8 → Bool} {s p : List UInt8} {w W3 : World} {R : Loop} {b : Bool} {v3 : Value} {tmps : Array Value} (h : SpJ w R 0 p (partsF s.length s) W3) (hrow : W3.ownsRow (w.heap.size + 7) 9 1 v3 (partsF s.length s).length ((partsF s.length s).map stv)) (hs0 : s ≠ []) (hs : s.length ≤ 256) (hok : (partsF s.length s).all ok = true)
    (h2 : tmps[2]? = some (.pointer (some ⟨w.heap.size, 0, none⟩))) (h3 : tmps[3]? = some (.pointer (some ⟨w.heap.size + 1, 0, none⟩))) (h4 : tmps[4]? = some (.pointer (some ⟨w.heap.size + 1 + 1, 0, none⟩))) (hb : b = (s.head? == some 47)) :
    bodyPostM Fence.wide n Tryz.prog Tryz.f123 (SpPost ok s w) .ret { tmps, defers := [{ target := .collected (w.heap.size + 1 + 1 + 1 + 1 + 1), args := #[] }] }
      (((W3.setCell ⟨w.heap.size, 0, none⟩ (.bool b)).setCell ⟨w.heap.size + 1, 0, none⟩ v3).setCell ⟨w.heap.size + 1 + 1, 0, none⟩ (.int .i64 0)).drew := by
  obtain ⟨f0, f1, f2, f3, f4, f5⟩ := SpJ.fin h hrow b
  subst hb
  refine ⟨by simp, .inl ⟨_, _, rfl, run_takeDeferred f3, _, res9 h2 h3 h4 (boxed_put f0 (by omega)) (boxed_put f1 (by omega)) (boxed_put f2 (by omega)), f5.trans (below_put _ _ (by omega)), .inr (.inr (.inr ⟨hs0, hs, hok, v3, rfl, ?_⟩))⟩⟩
  have := ownsRow_putObj f4 (.deferred none) f3 rfl
  exact ⟨this.1, this.2.imp id fun ⟨g, cap, cur, a, b, c⟩ => ⟨g, cap, cur, a, by omega, c⟩⟩

set_option maxRecDepth 100000 in
set_option maxHeartbeats 2000000 in
theorem split_in (n : Nat) (hC : ∀ m f args w R, Calls Tryz.prog f args w R → CallsIn Fence.wide m Tryz.prog f args w R) (hall : ∀ f, Fence.wide.fn f) (h9 : Fence.wide.fn 123) (h26 : Fence.wide.fn 165) (h43 : Fence.wide.fn 187) (hro : Fence.wide.round = none) (hn : 3 ≤ n) (ok : List UInt8 → Bool)
    (hcut : ∀ s : List UInt8, s.length ≤ 256 → ∃ f, Contract Tryz.prog 188 [.str s, .str [47]] (.tuple [.str (cutA s), .str (cutB s), .bool f]) []) (hval : ∀ s : List UInt8, s.length ≤ 256 → Contract Tryz.prog 139 [.str s] (.bool (ok s)) []) (s : List UInt8) (w : World) :
    CallsIn Fence.wide n Tryz.prog 123 #[stv s] w (SpPost ok s w) := by
  have h1 : 1 ≤ n := by omega
  refine callsIn_of_wp_marks Tryz.func123 rfl h9 ?_ hro
  simp only [Tryz.ntmps123, stv, List.size_toArray, List.length_cons, List.length_nil, Nat.reduceAdd, Nat.reduceSub, Array.replicate_succ, Array.replicate_zero, List.push_toArray, List.append_toArray, List.nil_append, List.cons_append]
  gi_wp2_with (gi_at_call 165; refine (parts_in Fence.wide (n - 1) h26 hro _ _).mono ?_; rintro e w' ⟨rfl, rfl⟩)
  · obtain ⟨b0, b1, b2, hb⟩ := three w (.bool false) (.slice none 0 0) (.int .i64 4)
    have hs : s = [] := by simpa using ‹s.isEmpty = true›
    exact ⟨_, res9 rfl rfl rfl b0 b1 b2, hb, .inl ⟨hs, rfl⟩⟩
  · obtain ⟨b0, b1, b2, hb⟩ := three w (.bool false) (.slice none 0 0) (.int .i64 7)
    have hs : s ≠ [] := by simpa using ‹s.isEmpty = false›
    exact ⟨_, res9 rfl rfl rfl b0 b1 b2, hb, .inr (.inl ⟨hs, by omega, rfl⟩)⟩
  · refine rangeFunc_rec hro h1 (gf := 187) rfl h43 enters_of43 ?_
    intro fn R hfn hR
    have hst := SpJ.start w s (R .ready none)
    simp only [stv] at hst
    simp only [World.size_alloc] at *
    generalize hW1 : (((((((w.alloc (.cells #[.bool false] 4)).alloc (.cells #[.slice none 0 0] 22)).alloc (.cells #[.int .i64 0] 31)).alloc (.cells #[.slice none 0 0] 22)).alloc (.cells #[.string ⟨s.toArray⟩] 9)).alloc (.deferred (some []))).alloc (.loop (R .ready none))) = W1 at hst ⊢
    have hs : s.length ≤ 256 := by omega
    refine (iter_in Fence.wide (n - 1) hC h43 (hall 188) hro (by omega) (w.heap.size + 1 + 1 + 1 + 1 + 1 + 1) (w.heap.size + 1 + 1 + 1 + 1) (SpJ w (R .ready none) 0) (fun W => ∃ p ns, SpJ w (R .done (some .ret)) 4 p ns W) ok hcut (fun p ns W h => h.b4) (fun p q ns W h => h.setp) (fun p ns W W' h hb => h.keep hb) s hs ?_ W1 hst).mono ?_
    · intro p ns x W hJ hx hns
      refine yield_rec (F := Fence.wide) hR hfn hJ.b6 rfl { tmps := #[.string ⟨s.toArray⟩, undef, .pointer (some ⟨w.heap.size, 0, none⟩), .pointer (some ⟨w.heap.size + 1, 0, none⟩), .pointer (some ⟨w.heap.size + 1 + 1, 0, none⟩), .pointer (some ⟨w.heap.size + 1 + 1 + 1, 0, none⟩), .string ⟨x.toArray⟩, .bool false, .string ⟨s.toArray⟩, .bool false, .bool (decide ((256 : Int) < s.length)), .string ⟨s.toArray⟩, .int .i64 s.length, .bool (decide ((256 : Int) < s.length)), .string ⟨s.toArray⟩, .func (.func 187) #[] #[.pointer (some ⟨w.heap.size + 1 + 1 + 1 + 1, 0, none⟩)], .string ⟨x.toArray⟩, undef, undef, undef, undef, undef, undef, undef, undef, undef, undef, undef], defers := [] } ?assign ?body
      case assign =>
        intro K hK
        simp only [stv]
        gi_wp2
        exact hK
      case body =>
        have h11 : Fence.wide.fn 139 := hall 139
        have hn2 : 1 ≤ n - 1 - 1 := by omega
        have hB := SpJ.putRec (R' := R .busy none) hJ
        obtain ⟨i0, hi, hz0, hz1, hz2⟩ := info_parts info9t
        generalize W.putObj (w.heap.size + 1 + 1 + 1 + 1 + 1 + 1) (.loop (R .busy none)) = Wb at hB ⊢
        gi_wp2_with (first | (gi_at_call 139; refine (CallsIn.inRound _ (hC _ _ _ _ _ (calls_of_contract (hval x hx) (args_str x)))).mono ?_; rintro e w1 ⟨v, rfl, hb1, φ1, Wx, hv⟩; cases hv; have hB1 := hB.keep hb1; have c0 := hB1.b0.cell; have c1 := hB1.b1.cell; have c2 := hB1.b2.cell; have g0 := hB1.b0.frozen; have g1 := hB1.b1.frozen; have g2 := hB1.b2.frozen; obtain ⟨v3, hv3, hrow⟩ := hB1.b3; have c3 := hv3.cell; have g3 := hv3.frozen) | (gi_at_builtin; refine wpListIn_append_own _ rfl _ _ 22 rfl (w.heap.size + 7) 9 i0 (.string ⟨#[]⟩) 1 16 Tryz.underlying22 hi hz0 hz1 hz2 rfl (by decide) _ _ _ rfl (hrow.alloc _) ⟨w1.heap.size, 0, none⟩ 1 1 [.string ⟨x.toArray⟩] rfl rfl (cell_one_new _ _ _) (by simp [Value.oneCell']) (by unfold maxLen; omega) (by omega) (by have := (Array.getElem?_eq_some_iff.1 hB1.b6).1; simp; omega) ?_; intro v' w2 hown' hgrow _; obtain ⟨g', cap', rfl⟩ := ownsRow_succ hown'; obtain ⟨hn1, hB2⟩ := hB1.append hv3 hrow hown' hgrow; have hc1 := hn1.cell; have hf1 := hn1.frozen))
        · rename_i hq
          have hq' : ok x = false := by simpa using hq
          subst hR
          have hE := hB1.err
          exact ⟨hE.b6, hq', _, _, hE.putRec⟩
        · subst hR
          have hq' : ok x = true := by
            have : (!ok x) = false := by assumption
            simpa using this
          exact ⟨hB2.b6, hq', hB2.putRec⟩
    · rintro e W2 ⟨⟨v, rfl⟩, h⟩
      refine ⟨⟨v, rfl⟩, ?_⟩
      have hs0 : s ≠ [] := by simpa using ‹s.isEmpty = false›
      rcases h with ⟨hok, hJ⟩ | ⟨hok, hJ⟩
      · refine ⟨.ready, none, by simp, hJ.b6, ?_⟩
        have hJ' := hJ.putRec (R' := R .exhausted none)
        generalize W2.putObj (w.heap.size + 1 + 1 + 1 + 1 + 1 + 1) (.loop (R .exhausted none)) = W3 at hJ' ⊢
        have c0 := hJ'.b0.cell; have c1 := hJ'.b1.cell; have c2 := hJ'.b2.cell; have g0 := hJ'.b0.frozen; have g1 := hJ'.b1.frozen; have g2 := hJ'.b2.frozen
        obtain ⟨v3, hv3, hrow⟩ := hJ'.b3
        have c3 := hv3.cell
        obtain ⟨c0s, ls, hcs⟩ : ∃ b l, s = b :: l := by
          cases s with
          | nil => exact absurd rfl hs0
          | cons b l => exact ⟨b, l, rfl⟩
        have hz : (0 : Int) < s.length := by rw [hcs]; simp
        obtain ⟨ao, n3, cap3, rfl⟩ : ∃ ao n' cap, v3 = .slice ao n' cap := by
          rcases hrow.2 with ⟨hv, _⟩ | ⟨g, cap, cur, hv, _⟩
          · exact ⟨_, _, _, hv⟩
          · exact ⟨_, _, _, hv⟩
        have mixed : Tryz.prog.follows Departure.mixedOrders = true := by kernel_rfl
        gi_wp2
        gi_region
        gi_wp2
        refine spFinish hJ' hrow hs0 hs hok rfl rfl rfl ?_
        rw [hcs, Bool.eq_iff_iff]
        simp only [beq_iff_eq, List.head?_cons, Option.some.injEq]
        rw [← UInt8.toNat_inj]
        show (c0s.toNat : Int) = 47 ↔ c0s.toNat = 47
        omega
      · obtain ⟨p', ns', hJ⟩ := hJ
        refine ⟨.done, some .ret, by simp, hJ.b6, ?_⟩
        have hJ' := hJ.putRec (R' := R .exhausted (some .ret))
        generalize W2.putObj (w.heap.size + 1 + 1 + 1 + 1 + 1 + 1) (.loop (R .exhausted (some .ret))) = W3 at hJ' ⊢
        gi_wp2
        exact ⟨by simp, .inl ⟨_, _, rfl, run_takeDeferred hJ'.b5, _, res9 rfl rfl rfl (boxed_put hJ'.b0 (by omega)) (boxed_put hJ'.b1 (by omega)) (boxed_put hJ'.b2 (by omega)), hJ'.below.trans (below_put _ _ (by omega)), .inr (.inr (.inl ⟨hs0, hs, hok, rfl⟩))⟩⟩

theorem split_calls (s : List UInt8) (w : World) : Calls Tryz.prog 123 #[stv s] w (SpPost nameOk s w) :=
  callsIn_wide.1 (split_in 3 (fun m f args w R h => callsIn_wide.2 h) (fun _ => trivial) trivial trivial trivial rfl (Nat.le_refl _) nameOk
    (fun s hs => by
      obtain ⟨f, hf⟩ := Cut_eq s (by omega)
      exact ⟨f, contract_of D0_good hf⟩)
    (fun s hs => contract_of D0_good (dValid_eq s)) s w)

theorem tuple_three {φ : Abs.Place} {W : Nat → Prop} {w : World} {a b c : V} {x y z : Value} (h1 : VRel φ W w a x) (h2 : VRel φ W w b y) (h3 : VRel φ W w c z) : VRel φ W w (.tuple [a, b, c]) (.tuple #[x, y, z]) := by
  refine .tuple _ _ rfl fun i d v hd hv => ?_
  match i, hd, hv with
  | 0, hd, hv => simp at hd hv; subst hd; subst hv; exact h1
  | 1, hd, hv => simp at hd hv; subst hd; subst hv; exact h2
  | 2, hd, hv => simp at hd hv; subst hd; subst hv; exact h3
  | i + 3, hd, hv => simp at hd

theorem split_contract (xs : List V) (r : V) (H' : Heap) (hx : splitX xs = some (r, H')) : Contract Tryz.prog 123 xs r H' := fun base Z w cargs I ha => by
  unfold splitX at hx
  split at hx
  case h_2 => cases hx
  rename_i s
  obtain ⟨cv, rfl, hcv⟩ := arg_one ha
  cases hcv
  refine Calls.mono (split_calls s w) fun e w' ⟨hb, hp⟩ => ?_
  have err : ∀ k : Int, e = .returned (.tuple #[.bool false, .slice none 0 0, .int .i64 k]) → ∃ v, e = .returned v ∧ Turns base Z pure0 [] w [] (.tuple [.bool false, .nils, .int .i64 k]) v w' := fun k he =>
    ⟨_, he, turns_below I hb (tuple_three (.bool _) .nils (.int _ _))⟩
  rcases hp with ⟨h1, he⟩ | ⟨h1, h2, he⟩ | ⟨h1, h2, h3, he⟩ | ⟨h1, h2, h3, v, he, hrow⟩
  · rw [if_pos h1] at hx
    cases hx
    exact err 4 he
  · rw [if_neg h1, if_pos h2] at hx
    cases hx
    exact err 7 he
  · rw [if_neg h1, if_neg (by omega), if_neg (by rw [h3]; simp)] at hx
    cases hx
    exact err 4 he
  · rw [if_neg h1, if_neg (by omega), if_pos h3] at hx
    cases hx
    have := own_row (e := 9) (s := 1) (n := (partsF s.length s).length) (es := (partsF s.length s).map V.str) I hb (by omega) (by simp) (.of_mem fun x hx => by
      rw [List.mem_map] at hx
      obtain ⟨y, _, rfl⟩ := hx
      rfl) hrow (fun i j x c hx hc => by
        rw [List.getElem?_map, Option.map_eq_some_iff] at hx
        obtain ⟨y, hy, rfl⟩ := hx
        cases j with
        | succ j => simp [V.cells] at hc
        | zero =>
          simp [V.cells] at hc
          subst hc
          exact ⟨stv y, by simp [hy], rfl, .str y⟩)
    obtain ⟨φ', E⟩ := this
    exact ⟨_, he, φ', E.inv, tuple_three (.bool _) E.rel (.int _ _), E.step, E.len⟩

end Go.Proofs

