/- Proved here: what functions of the program compute, over the evaluator. No condition but those that each theorem states. -/
import Derived.Test.YtefdoccoajhefaaDoorTF
import Derived.Test.YtefdoccoajhefaaDoorTryShelf
namespace Go.Abs
open Go.Proofs Go.RowKit
set_option maxRecDepth 100000
set_option linter.unusedVariables false
set_option linter.unusedSimpArgs false

/-- A small context: strings.Cut and dir.Valid. -/
noncomputable def D0 : Ctx where
  P := Tryd.prog
  ext f := match f with | 78 => some indexByteX | _ => none
  extE _ := none
  keep := DC.keep
  body f := match f with | 11 => bodyOf Tryd.f11 | 44 => bodyOf Tryd.f44 | 60 => bodyOf Tryd.f60 | 71 => bodyOf Tryd.f71 | _ => none

@[simp] theorem D0P : D0.P = Tryd.prog := rfl
@[simp] theorem D0keep : D0.keep = DC.keep := rfl
@[simp] theorem D0callA (d : Bool) (xs : List V) (H : Heap) : callW D0 d (.fn 60 []) xs H = match sealL H xs with
    | some (ys, bs) => match bodyW D0 60 ys [] with
      | some (r, H') => some (ren (shift H.length) r, (if hasRo r || H'.any hasRoB then freeze H bs else H) ++ H'.map (renB (shift H.length)))
      | none => none
    | none => if d then none else bodyW D0 60 xs H := callW_body rfl rfl rfl
@[simp] theorem D0callB (d : Bool) (xs : List V) (H : Heap) : callW D0 d (.fn 71 []) xs H = match sealL H xs with
    | some (ys, bs) => match bodyW D0 71 ys [] with
      | some (r, H') => some (ren (shift H.length) r, (if hasRo r || H'.any hasRoB then freeze H bs else H) ++ H'.map (renB (shift H.length)))
      | none => none
    | none => if d then none else bodyW D0 71 xs H := callW_body rfl rfl rfl
@[simp] theorem D0callC (d : Bool) (xs : List V) (H : Heap) : callW D0 d (.fn 78 []) xs H = match sealL H xs with
    | some (ys, bs) => match indexByteX ys with
      | some (r, H') => some (ren (shift H.length) r, (if hasRo r || H'.any hasRoB then freeze H bs else H) ++ H'.map (renB (shift H.length)))
      | none => none
    | none => if d then none else bodyW D0 78 xs H := callW_ext rfl rfl rfl

theorem D0_body (f : FuncId) (b : Body) (h : D0.body f = some b) : ∃ fn, D0.P.funcs[f]? = some fn ∧ fn.name ≠ "runtime.NumGoroutine" ∧ fn.body = some b.code ∧ fn.results.toList = b.results ∧ fn.ntmps = b.ntmps ∧ codeOk D0.P D0.loud b.ntmps b.code = true := by
  unfold D0 at h ⊢
  simp only at h ⊢
  split at h
  · exact good_body Tryd.func11 (by decide) (by kernel_rfl) h
  · exact good_body Tryd.func44 (by decide) (by kernel_rfl) h
  · exact good_body Tryd.func60 (by decide) (by kernel_rfl) h
  · exact good_body Tryd.func71 (by decide) (by kernel_rfl) h
  · cases h

theorem D0_ext (f : FuncId) (g : List V → Option (V × Heap)) (h : D0.ext f = some g) : FnOk D0.P f ∧ ∀ xs r H', g xs = some (r, H') → Contract D0.P f xs r H' := by
  unfold D0 at h
  simp only at h
  split at h
  · cases h
    exact ⟨⟨_, Tryd.func78, by decide, by simp [Tryd.f78]⟩, fun xs r H' hx => indexByte_contract (fun s c w => Tryd.stringslite_IndexByte s c w) xs r H' hx⟩
  · cases h

theorem D0_good : Good D0 := ⟨by kernel_rfl, D0_body, D0_ext, fun f g h => by cases h⟩

theorem contract_of {C : Ctx} (G : Good C) {f : FuncId} {xs : List V} {r : V} {H' : Heap} (h : bodyW C f xs [] = some (r, H')) : Contract C.P f xs r H' := fun base Z w cargs I ha => by
  obtain ⟨n, hn⟩ := bodyW_iff.1 h
  exact ((all_ok G n).b _ _ _ _ _ hn).2 base Z pure0 w cargs I ha

/-- Where the first slash is. -/
theorem cut_find : ∀ s : List UInt8, match findB 47 s with
    | some n => n < s.length ∧ cutA s = s.take n ∧ cutB s = s.drop (n + 1)
    | none => cutA s = s ∧ cutB s = []
  | [] => ⟨rfl, rfl⟩
  | b :: l => by
    have ih := cut_find l
    simp only [findB]
    by_cases h : b = 47
    · subst h
      simp [cutA, cutB]
    · rw [if_neg h]
      have e1 : cutA (b :: l) = b :: cutA l := by simp [cutA, List.takeWhile_cons, h]
      have e2 : cutB (b :: l) = cutB l := by simp [cutB, List.dropWhile_cons, h]
      cases hf : findB 47 l with
      | none => rw [hf] at ih; simp only [Option.map_none]; rw [e1, e2, ih.1, ih.2]; exact ⟨rfl, rfl⟩
      | some n =>
        rw [hf] at ih
        simp only [Option.map_some]
        rw [e1, e2, ih.2.1, ih.2.2]
        exact ⟨by simp; omega, by simp, by simp⟩

theorem Index_eq (s : List UInt8) (hs : s.length < 4294967281) : bodyW D0 71 [.str s, .str [47]] [] = some (.int .i64 (match findB 47 s with | some n => n | none => -1), []) := by
  by_cases h : s = [47]
  · subst h
    (refine gives_iff ?_; refine go_func Tryd.f71 rfl rfl (by simp [Tryd.f71]) ?_; dsimp only [codeL, Tryd.f71, scL, sopsL, guardL, dstAt, loopKey])
    (repeat (first
    | (apply is_ok; (case hw => simp); (case he => simp; exact is_rfl))
    | (apply op_no; (case hw => simp))
    | refine op_nil ?_ | refine next_normal ?_ | refine go_seq ?_ | refine go_region ?_ | refine go_skip ?_ | refine go_block ?_ | refine inb_normal ?_
    | (apply go_yes; (case hc => simp)) | (apply go_no; (case hc => simp))
    | refine go_exit ?_ | refine next_exit ?_ | refine inb_here ?_ | refine inb_past (by decide) ?_ | refine go_ret ?_ | refine next_ret ?_ | refine inb_ret ?_))
    (apply ends_ok; (case h1 => simp; exact is_rfl); (case h2 => simp; exact is_rfl))
    exact ⟨rfl, rfl⟩
  · have h' : ¬ ([47] : List UInt8) = s := fun e => h e.symm
    (refine gives_iff ?_; refine go_func Tryd.f71 rfl rfl (by simp [Tryd.f71]) ?_; dsimp only [codeL, Tryd.f71, scL, sopsL, guardL, dstAt, loopKey])
    (repeat (first
    | (apply is_ok; (case hw => simp [indexByteX, h, h']); (case he => simp [indexByteX, h, h']; exact is_rfl))
    | (apply op_no; (case hw => simp [indexByteX, h, h']))
    | refine op_nil ?_ | refine next_normal ?_ | refine go_seq ?_ | refine go_region ?_ | refine go_skip ?_ | refine go_block ?_ | refine inb_normal ?_
    | (apply go_yes; (case hc => simp [indexByteX, h, h'])) | (apply go_no; (case hc => simp [indexByteX, h, h']))
    | refine go_exit ?_ | refine next_exit ?_ | refine inb_here ?_ | refine inb_past (by decide) ?_ | refine go_ret ?_ | refine next_ret ?_ | refine inb_ret ?_))
    (apply ends_ok; (case h1 => simp; exact is_rfl); (case h2 => simp; exact is_rfl))
    exact ⟨rfl, rfl⟩

theorem SCut_eq (s : List UInt8) (hs : s.length < 4294967281) : ∃ f, bodyW D0 60 [.str s, .str [47]] [] = some (.tuple [.str (cutA s), .str (cutB s), .bool f], []) := by
  have hc := cut_find s
  have hI := Index_eq s hs
  cases hf : findB 47 s with
  | none =>
    rw [hf] at hc hI
    refine ⟨false, ?_⟩
    rw [hc.1, hc.2]
    (refine gives_iff ?_; refine go_func Tryd.f60 rfl rfl (by simp [Tryd.f60]) ?_; dsimp only [codeL, Tryd.f60, scL, sopsL, guardL, dstAt, loopKey])
    (repeat (first
    | (apply is_ok; (case hw => simp [hI]); (case he => simp [hI]; exact is_rfl))
    | (apply op_no; (case hw => simp [hI]))
    | refine op_nil ?_ | refine next_normal ?_ | refine go_seq ?_ | refine go_region ?_ | refine go_skip ?_ | refine go_block ?_ | refine inb_normal ?_
    | (apply go_yes; (case hc => simp [hI])) | (apply go_no; (case hc => simp [hI]))
    | refine go_exit ?_ | refine next_exit ?_ | refine inb_here ?_ | refine inb_past (by decide) ?_ | refine go_ret ?_ | refine next_ret ?_ | refine inb_ret ?_))
    (apply ends_ok; (case h1 => simp; exact is_rfl); (case h2 => simp; exact is_rfl))
    exact ⟨rfl, rfl⟩
  | some n =>
    rw [hf] at hc hI
    obtain ⟨hn, e1, e2⟩ := hc
    have hw : IntKind.i64.wrap ((n : Int) + 1) = (n : Int) + 1 := wrap_id (by omega) (by omega)
    have g1 : (0 : Int) ≤ (n : Int) + 1 := by omega
    have g2 : ((n : Int) + 1).toNat = n + 1 := by omega
    have g3 : n ≤ s.length := by omega
    have g4 : n + 1 ≤ s.length := by omega
    refine ⟨true, ?_⟩
    rw [e1, e2]
    (refine gives_iff ?_; refine go_func Tryd.f60 rfl rfl (by simp [Tryd.f60]) ?_; dsimp only [codeL, Tryd.f60, scL, sopsL, guardL, dstAt, loopKey])
    (repeat (first
    | (apply is_ok; (case hw => simp [hI, hw, g1, g2, g3, g4]); (case he => simp [hI, hw, g1, g2, g3, g4]; exact is_rfl))
    | (apply op_no; (case hw => simp [hI, hw, g1, g2, g3, g4]))
    | refine op_nil ?_ | refine next_normal ?_ | refine go_seq ?_ | refine go_region ?_ | refine go_skip ?_ | refine go_block ?_ | refine inb_normal ?_
    | (apply go_yes; (case hc => simp [hI, hw, g1, g2, g3, g4])) | (apply go_no; (case hc => simp [hI, hw, g1, g2, g3, g4]))
    | refine go_exit ?_ | refine next_exit ?_ | refine inb_here ?_ | refine inb_past (by decide) ?_ | refine go_ret ?_ | refine next_ret ?_ | refine inb_ret ?_))
    (apply ends_ok; (case h1 => simp; exact is_rfl); (case h2 => simp; exact is_rfl))
    exact ⟨rfl, rfl⟩

theorem Cut_eq (s : List UInt8) (hs : s.length < 4294967281) : ∃ f, bodyW D0 44 [.str s, .str [47]] [] = some (.tuple [.str (cutA s), .str (cutB s), .bool f], []) := by
  obtain ⟨f, hS⟩ := SCut_eq s hs
  refine ⟨f, ?_⟩
  (refine gives_iff ?_; refine go_func Tryd.f44 rfl rfl (by simp [Tryd.f44]) ?_; dsimp only [codeL, Tryd.f44, scL, sopsL, guardL, dstAt, loopKey])
  (repeat (first
    | (apply is_ok; (case hw => simp [hS]); (case he => simp [hS]; exact is_rfl))
    | (apply op_no; (case hw => simp [hS]))
    | refine op_nil ?_ | refine next_normal ?_ | refine go_seq ?_ | refine go_region ?_ | refine go_skip ?_ | refine go_block ?_ | refine inb_normal ?_
    | (apply go_yes; (case hc => simp [hS])) | (apply go_no; (case hc => simp [hS]))
    | refine go_exit ?_ | refine next_exit ?_ | refine inb_here ?_ | refine inb_past (by decide) ?_ | refine go_ret ?_ | refine next_ret ?_ | refine inb_ret ?_))
  (apply ends_ok; (case h1 => simp; exact is_rfl); (case h2 => simp; exact is_rfl))
  exact ⟨rfl, rfl⟩

end Go.Abs
