/- Proved here: what functions of the program compute, over the evaluator. No condition but those that each theorem states. -/
import Derived.Test.YtfgikfagblhkiaaGreatDoorTF
import Derived.Test.YtfgikfagblhkiaaGreatDoorTryShelf
import Derived.Test.YtfgikfagblhkiaaGreatDoorM3
import Derived.Test.YtfgikfagblhkiaaGreatDoorM2
import Derived.Sort.Walk0
namespace Go.Abs
open Go.Proofs Go.RowKit
set_option maxRecDepth 100000
set_option linter.unusedVariables false
set_option linter.unusedSimpArgs false

/-- A small context: strings.Cut and dir.Valid. -/
noncomputable def D0 : Ctx where
  P := Tryz.prog
  ext f := match f with | 220 => some indexByteX | _ => none
  extE _ := none
  keep := DC.keep
  body f := match f with | 139 => bodyOf Tryz.f139 | 188 => bodyOf Tryz.f188 | 207 => bodyOf Tryz.f207 | 216 => bodyOf Tryz.f216 | _ => none

@[simp] theorem D0P : D0.P = Tryz.prog := rfl
@[simp] theorem D0keep : D0.keep = DC.keep := rfl
@[simp] theorem D0callA (d : Bool) (xs : List V) (H : Heap) : callW D0 d (.fn 207 []) xs H = match sealL H xs with
    | some (ys, bs) => match bodyW D0 207 ys [] with
      | some (r, H') => some (ren (shift H.length) r, (if hasRo r || H'.any hasRoB then freeze H bs else H) ++ H'.map (renB (shift H.length)))
      | none => none
    | none => if d then none else bodyW D0 207 xs H := callW_body rfl rfl rfl
@[simp] theorem D0callB (d : Bool) (xs : List V) (H : Heap) : callW D0 d (.fn 216 []) xs H = match sealL H xs with
    | some (ys, bs) => match bodyW D0 216 ys [] with
      | some (r, H') => some (ren (shift H.length) r, (if hasRo r || H'.any hasRoB then freeze H bs else H) ++ H'.map (renB (shift H.length)))
      | none => none
    | none => if d then none else bodyW D0 216 xs H := callW_body rfl rfl rfl
@[simp] theorem D0callC (d : Bool) (xs : List V) (H : Heap) : callW D0 d (.fn 220 []) xs H = match sealL H xs with
    | some (ys, bs) => match indexByteX ys with
      | some (r, H') => some (ren (shift H.length) r, (if hasRo r || H'.any hasRoB then freeze H bs else H) ++ H'.map (renB (shift H.length)))
      | none => none
    | none => if d then none else bodyW D0 220 xs H := callW_ext rfl rfl rfl

theorem D0_body (f : FuncId) (b : Body) (h : D0.body f = some b) : ∃ fn, D0.P.funcs[f]? = some fn ∧ fn.name ≠ "runtime.NumGoroutine" ∧ fn.body = some b.code ∧ fn.results.toList = b.results ∧ fn.ntmps = b.ntmps ∧ codeOk D0.P D0.loud (D0.free f) b.ntmps b.code = true := by
  unfold D0 at h ⊢
  simp only at h ⊢
  split at h
  · exact good_body Tryz.func139 (by decide) (by kernel_rfl) h
  · exact good_body Tryz.func188 (by decide) (by kernel_rfl) h
  · exact good_body Tryz.func207 (by decide) (by kernel_rfl) h
  · exact good_body Tryz.func216 (by decide) (by kernel_rfl) h
  · cases h

theorem D0_ext (f : FuncId) (g : List V → Option (V × Heap)) (h : D0.ext f = some g) : FnOk D0.P f ∧ ∀ xs r H', g xs = some (r, H') → Contract D0.P f xs r H' := by
  unfold D0 at h
  simp only at h
  split at h
  · cases h
    exact ⟨⟨_, Tryz.func220, by decide, by simp [Tryz.f220]⟩, fun xs r H' hx => indexByte_contract (fun s c w => Tryz.stringslite_IndexByte s c w) xs r H' hx⟩
  · cases h

theorem D0_good : Good D0 := ⟨by kernel_rfl, D0_body, D0_ext, fun f g h => by cases h⟩

theorem contract_of {C : Ctx} (G : Good C) {f : FuncId} {xs : List V} {r : V} {H' : Heap} (h : bodyW C f xs [] = some (r, H')) : Contract C.P f xs r H' := fun base Z w cargs I ha => by
  obtain ⟨n, hn⟩ := bodyW_iff.1 h
  exact ((all_ok G n).b _ _ _ _ _ hn).2 base Z pure0 w cargs I ha

/-- Where the first slash is. -/
theorem cut_find : ∀ s : List UInt8, match findB 47 s with
    | some n => n < s.length ∧ cutA s = s.take n ∧ cutB s = s.drop (n + 1)
    | none => cutA s = s ∧ cutB s = []
  | [] => ⟨rfl, rfl⟩
  | b :: l => by
    have ih := cut_find l
    simp only [findB]
    by_cases h : b = 47
    · subst h
      simp [cutA, cutB]
    · rw [if_neg h]
      have e1 : cutA (b :: l) = b :: cutA l := by simp [cutA, List.takeWhile_cons, h]
      have e2 : cutB (b :: l) = cutB l := by simp [cutB, List.dropWhile_cons, h]
      cases hf : findB 47 l with
      | none => rw [hf] at ih; simp only [Option.map_none]; rw [e1, e2, ih.1, ih.2]; exact ⟨rfl, rfl⟩
      | some n =>
        rw [hf] at ih
        simp only [Option.map_some]
        rw [e1, e2, ih.2.1, ih.2.2]
        exact ⟨by simp; omega, by simp, by simp⟩

theorem Index_eq (s : List UInt8) (hs : s.length < 4294967281) : bodyW D0 216 [.str s, .str [47]] [] = some (.int .i64 (match findB 47 s with | some n => n | none => -1), []) := by
  by_cases h : s = [47]
  · subst h
    (refine gives_iff ?_; refine go_func Tryz.f216 rfl rfl (by simp [Tryz.f216]) ?_; dsimp only [codeL, Tryz.f216, scL, sopsL, guardL, dstAt, loopKey])
    (repeat (first
    | (apply is_ok; (case hw => simp); (case he => simp; exact is_rfl))
    | (apply op_no; (case hw => simp))
    | refine op_nil ?_ | refine next_normal ?_ | refine go_seq ?_ | refine go_region ?_ | refine go_skip ?_ | refine go_block ?_ | refine inb_normal ?_
    | (apply go_yes; (case hc => simp)) | (apply go_no; (case hc => simp))
    | refine go_exit ?_ | refine next_exit ?_ | refine inb_here ?_ | refine inb_past (by decide) ?_ | refine go_ret ?_ | refine next_ret ?_ | refine inb_ret ?_))
    (apply ends_ok; (case h1 => simp; exact is_rfl); (case h2 => simp; exact is_rfl))
    exact ⟨rfl, rfl⟩
  · have h' : ¬ ([47] : List UInt8) = s := fun e => h e.symm
    (refine gives_iff ?_; refine go_func Tryz.f216 rfl rfl (by simp [Tryz.f216]) ?_; dsimp only [codeL, Tryz.f216, scL, sopsL, guardL, dstAt, loopKey])
    (repeat (first
    | (apply is_ok; (case hw => simp [indexByteX, h, h']); (case he => simp [indexByteX, h, h']; exact is_rfl))
    | (apply op_no; (case hw => simp [indexByteX, h, h']))
    | refine op_nil ?_ | refine next_normal ?_ | refine go_seq ?_ | refine go_region ?_ | refine go_skip ?_ | refine go_block ?_ | refine inb_normal ?_
    | (apply go_yes; (case hc => simp [indexByteX, h, h'])) | (apply go_no; (case hc => simp [indexByteX, h, h']))
    | refine go_exit ?_ | refine next_exit ?_ | refine inb_here ?_ | refine inb_past (by decide) ?_ | refine go_ret ?_ | refine next_ret ?_ | refine inb_ret ?_))
    (apply ends_ok; (case h1 => simp; exact is_rfl); (case h2 => simp; exact is_rfl))
    exact ⟨rfl, rfl⟩

theorem SCut_eq (s : List UInt8) (hs : s.length < 4294967281) : ∃ f, bodyW D0 207 [.str s, .str [47]] [] = some (.tuple [.str (cutA s), .str (cutB s), .bool f], []) := by
  have hc := cut_find s
  have hI := Index_eq s hs
  cases hf : findB 47 s with
  | none =>
    rw [hf] at hc hI
    refine ⟨false, ?_⟩
    rw [hc.1, hc.2]
    (refine gives_iff ?_; refine go_func Tryz.f207 rfl rfl (by simp [Tryz.f207]) ?_; dsimp only [codeL, Tryz.f207, scL, sopsL, guardL, dstAt, loopKey])
    (repeat (first
    | (apply is_ok; (case hw => simp [hI]); (case he => simp [hI]; exact is_rfl))
    | (apply op_no; (case hw => simp [hI]))
    | refine op_nil ?_ | refine next_normal ?_ | refine go_seq ?_ | refine go_region ?_ | refine go_skip ?_ | refine go_block ?_ | refine inb_normal ?_
    | (apply go_yes; (case hc => simp [hI])) | (apply go_no; (case hc => simp [hI]))
    | refine go_exit ?_ | refine next_exit ?_ | refine inb_here ?_ | refine inb_past (by decide) ?_ | refine go_ret ?_ | refine next_ret ?_ | refine inb_ret ?_))
    (apply ends_ok; (case h1 => simp; exact is_rfl); (case h2 => simp; exact is_rfl))
    exact ⟨rfl, rfl⟩
  | some n =>
    rw [hf] at hc hI
    obtain ⟨hn, e1, e2⟩ := hc
    have hw : IntKind.i64.wrap ((n : Int) + 1) = (n : Int) + 1 := wrap_id (by omega) (by omega)
    have g1 : (0 : Int) ≤ (n : Int) + 1 := by omega
    have g2 : ((n : Int) + 1).toNat = n + 1 := by omega
    have g3 : n ≤ s.length := by omega
    have g4 : n + 1 ≤ s.length := by omega
    refine ⟨true, ?_⟩
    rw [e1, e2]
    (refine gives_iff ?_; refine go_func Tryz.f207 rfl rfl (by simp [Tryz.f207]) ?_; dsimp only [codeL, Tryz.f207, scL, sopsL, guardL, dstAt, loopKey])
    (repeat (first
    | (apply is_ok; (case hw => simp [hI, hw, g1, g2, g3, g4]); (case he => simp [hI, hw, g1, g2, g3, g4]; exact is_rfl))
    | (apply op_no; (case hw => simp [hI, hw, g1, g2, g3, g4]))
    | refine op_nil ?_ | refine next_normal ?_ | refine go_seq ?_ | refine go_region ?_ | refine go_skip ?_ | refine go_block ?_ | refine inb_normal ?_
    | (apply go_yes; (case hc => simp [hI, hw, g1, g2, g3, g4])) | (apply go_no; (case hc => simp [hI, hw, g1, g2, g3, g4]))
    | refine go_exit ?_ | refine next_exit ?_ | refine inb_here ?_ | refine inb_past (by decide) ?_ | refine go_ret ?_ | refine next_ret ?_ | refine inb_ret ?_))
    (apply ends_ok; (case h1 => simp; exact is_rfl); (case h2 => simp; exact is_rfl))
    exact ⟨rfl, rfl⟩

theorem Cut_eq (s : List UInt8) (hs : s.length < 4294967281) : ∃ f, bodyW D0 188 [.str s, .str [47]] [] = some (.tuple [.str (cutA s), .str (cutB s), .bool f], []) := by
  obtain ⟨f, hS⟩ := SCut_eq s hs
  refine ⟨f, ?_⟩
  (refine gives_iff ?_; refine go_func Tryz.f188 rfl rfl (by simp [Tryz.f188]) ?_; dsimp only [codeL, Tryz.f188, scL, sopsL, guardL, dstAt, loopKey])
  (repeat (first
    | (apply is_ok; (case hw => simp [hS]); (case he => simp [hS]; exact is_rfl))
    | (apply op_no; (case hw => simp [hS]))
    | refine op_nil ?_ | refine next_normal ?_ | refine go_seq ?_ | refine go_region ?_ | refine go_skip ?_ | refine go_block ?_ | refine inb_normal ?_
    | (apply go_yes; (case hc => simp [hS])) | (apply go_no; (case hc => simp [hS]))
    | refine go_exit ?_ | refine next_exit ?_ | refine inb_here ?_ | refine inb_past (by decide) ?_ | refine go_ret ?_ | refine next_ret ?_ | refine inb_ret ?_))
  (apply ends_ok; (case h1 => simp; exact is_rfl); (case h2 => simp; exact is_rfl))
  exact ⟨rfl, rfl⟩

end Go.Abs

namespace Go.Abs
open Go.Proofs
set_option maxRecDepth 100000
set_option linter.unusedSimpArgs false
set_option linter.unusedVariables false

@[simp] theorem u8s_len (a : List UInt8) : (u8s a).length = a.length := by simp [u8s]
@[simp] theorem u8s_get (s : List UInt8) (i : Nat) (h : i < (u8s s).length) : (u8s s)[i] = .int .u8 ((s[i]'(by simpa using h)).toNat : Nat) := by simp [u8s]
theorem u8s_at {s : List UInt8} {i : Nat} (h : i < s.length) : (u8s s)[i]? = some (.int .u8 (s[i].toNat : Nat)) := by simp [u8s, h]
theorem all_step {α : Type} {p : α → Bool} {s : List α} {i : Nat} (hi : i < s.length) (h : (s.take i).all p = true) (hp : p s[i] = true) : (s.take (i + 1)).all p = true := by
  rw [List.take_succ_eq_append_getElem hi, List.all_append, h, List.all_cons, hp]; rfl
theorem all_not {α : Type} {p : α → Bool} {s : List α} {i : Nat} (hi : i < s.length) (hp : p s[i] = false) : s.all p = false := by
  rw [Bool.eq_false_iff]
  intro h
  rw [List.all_eq_true] at h
  rw [h _ (List.getElem_mem hi)] at hp
  cases hp

theorem ch_int {c : UInt8} : chOk c = (decide ((33 : Int) ≤ c.toNat) && decide ((c.toNat : Int) ≤ 126) && !((c.toNat : Int) == 47)) := by
  unfold chOk
  have h1 : decide (33 ≤ c.toNat) = decide ((33 : Int) ≤ c.toNat) := by congr 1; exact propext (by omega)
  have h2 : decide (c.toNat ≤ 126) = decide ((c.toNat : Int) ≤ 126) := by congr 1; exact propext (by omega)
  have h3 : (c == 47) = ((c.toNat : Int) == 47) := by
    rw [Bool.eq_iff_iff]
    simp only [beq_iff_eq]
    rw [← UInt8.toNat_inj]
    show c.toNat = 47 ↔ _
    omega
  rw [h1, h2, h3]

theorem dValid_eq (s : List UInt8) : bodyW D0 139 [.str s] [] = some (.bool (nameOk s), []) := by
  by_cases h1 : s = []
  · subst h1
    (refine gives_iff ?_; refine go_func Tryz.f139 rfl rfl (by simp [Tryz.f139]) ?_; dsimp only [codeL, Tryz.f139, scL, sopsL, guardL, dstAt, loopKey])
    (repeat (first
    | (apply is_ok; (case hw => simp); (case he => simp; exact is_rfl))
    | (apply op_no; (case hw => simp))
    | refine op_nil ?_ | refine next_normal ?_ | refine go_seq ?_ | refine go_region ?_ | refine go_skip ?_ | refine go_block ?_ | refine inb_normal ?_
    | (apply go_yes; (case hc => simp)) | (apply go_no; (case hc => simp))
    | refine go_exit ?_ | refine next_exit ?_ | refine inb_here ?_ | refine inb_past (by decide) ?_ | refine go_ret ?_ | refine next_ret ?_ | refine inb_ret ?_))
    (apply ends_ok; (case h1 => simp; exact is_rfl); (case h2 => simp; exact is_rfl))
    exact ⟨rfl, rfl⟩
  by_cases h2 : s = [46]
  · subst h2
    (refine gives_iff ?_; refine go_func Tryz.f139 rfl rfl (by simp [Tryz.f139]) ?_; dsimp only [codeL, Tryz.f139, scL, sopsL, guardL, dstAt, loopKey])
    (repeat (first
    | (apply is_ok; (case hw => simp); (case he => simp; exact is_rfl))
    | (apply op_no; (case hw => simp))
    | refine op_nil ?_ | refine next_normal ?_ | refine go_seq ?_ | refine go_region ?_ | refine go_skip ?_ | refine go_block ?_ | refine inb_normal ?_
    | (apply go_yes; (case hc => simp)) | (apply go_no; (case hc => simp))
    | refine go_exit ?_ | refine next_exit ?_ | refine inb_here ?_ | refine inb_past (by decide) ?_ | refine go_ret ?_ | refine next_ret ?_ | refine inb_ret ?_))
    (apply ends_ok; (case h1 => simp; exact is_rfl); (case h2 => simp; exact is_rfl))
    exact ⟨rfl, rfl⟩
  by_cases h3 : s = [46, 46]
  · subst h3
    (refine gives_iff ?_; refine go_func Tryz.f139 rfl rfl (by simp [Tryz.f139]) ?_; dsimp only [codeL, Tryz.f139, scL, sopsL, guardL, dstAt, loopKey])
    (repeat (first
    | (apply is_ok; (case hw => simp); (case he => simp; exact is_rfl))
    | (apply op_no; (case hw => simp))
    | refine op_nil ?_ | refine next_normal ?_ | refine go_seq ?_ | refine go_region ?_ | refine go_skip ?_ | refine go_block ?_ | refine inb_normal ?_
    | (apply go_yes; (case hc => simp)) | (apply go_no; (case hc => simp))
    | refine go_exit ?_ | refine next_exit ?_ | refine inb_here ?_ | refine inb_past (by decide) ?_ | refine go_ret ?_ | refine next_ret ?_ | refine inb_ret ?_))
    (apply ends_ok; (case h1 => simp; exact is_rfl); (case h2 => simp; exact is_rfl))
    exact ⟨rfl, rfl⟩
  by_cases h4 : (14 : Int) < s.length
  · have : nameOk s = false := by
      have : decide (s.length ≤ 14) = false := by simp; omega
      simp [nameOk, this]
    rw [this]
    (refine gives_iff ?_; refine go_func Tryz.f139 rfl rfl (by simp [Tryz.f139]) ?_; dsimp only [codeL, Tryz.f139, scL, sopsL, guardL, dstAt, loopKey])
    (repeat (first
    | (apply is_ok; (case hw => simp [h1, h2, h3, h4]); (case he => simp [h1, h2, h3, h4]; exact is_rfl))
    | (apply op_no; (case hw => simp [h1, h2, h3, h4]))
    | refine op_nil ?_ | refine next_normal ?_ | refine go_seq ?_ | refine go_region ?_ | refine go_skip ?_ | refine go_block ?_ | refine inb_normal ?_
    | (apply go_yes; (case hc => simp [h1, h2, h3, h4])) | (apply go_no; (case hc => simp [h1, h2, h3, h4]))
    | refine go_exit ?_ | refine next_exit ?_ | refine inb_here ?_ | refine inb_past (by decide) ?_ | refine go_ret ?_ | refine next_ret ?_ | refine inb_ret ?_))
    (apply ends_ok; (case h1 => simp; exact is_rfl); (case h2 => simp; exact is_rfl))
    exact ⟨rfl, rfl⟩
  have h5 : s.length ≤ room := by unfold room; omega
  have h6 : nameOk s = s.all chOk := by
    have e1 : (s == []) = false := by simpa using h1
    have e2 : (s == [46]) = false := by simpa using h2
    have e3 : (s == [46, 46]) = false := by simpa using h3
    have e4 : decide (s.length ≤ 14) = true := by simp; omega
    unfold nameOk
    rw [e1, e2, e3, e4]
    simp
  rw [h6]
  (refine gives_iff ?_; refine go_func Tryz.f139 rfl rfl (by simp [Tryz.f139]) ?_; dsimp only [codeL, Tryz.f139, scL, sopsL, guardL, dstAt, loopKey])
  (repeat (first
    | (apply is_ok; (case hw => simp [h1, h2, h3, h4, h5]); (case he => simp [h1, h2, h3, h4, h5]; exact is_rfl))
    | (apply op_no; (case hw => simp [h1, h2, h3, h4, h5]))
    | refine op_nil ?_ | refine next_normal ?_ | refine go_seq ?_ | refine go_region ?_ | refine go_skip ?_ | refine go_block ?_ | refine inb_normal ?_
    | (apply go_yes; (case hc => simp [h1, h2, h3, h4, h5])) | (apply go_no; (case hc => simp [h1, h2, h3, h4, h5]))
    | refine go_exit ?_ | refine next_exit ?_ | refine inb_here ?_ | refine inb_past (by decide) ?_ | refine go_ret ?_ | refine next_ret ?_ | refine inb_ret ?_))
  refine go_count s.length (fun i => [(21, .own 0 s.length 0 s.length), (22, .int .i64 s.length), (23, .int .i64 i)]) (fun _ => [.dat true 1 (u8s s)]) (fun i => (s.take i).all chOk = true) (by simp) rfl fun i hi hall => ?_
  by_cases hlt : i < s.length
  · have g1 : (i : Int) < s.length := by omega
    by_cases hc : chOk s[i] = true
    · have hc' := hc
      rw [ch_int] at hc
      simp only [Bool.and_eq_true, decide_eq_true_eq, Bool.not_eq_true', beq_eq_false_iff_ne, ne_eq] at hc
      have q1 : ¬ (s[i].toNat : Int) < 33 := by omega
      have q2 : ¬ (126 : Int) < s[i].toNat := by omega
      have q3 : ¬ (s[i].toNat : Int) = 47 := hc.2
      have q4 : IntKind.i64.wrap ((i : Int) + 1) = (i : Int) + 1 := wrap_id (by omega) (by omega)
      (repeat (first
    | (apply is_ok; (case hw => simp [g1, hlt, u8s_at hlt, q1, q2, q3, q4]); (case he => simp [g1, hlt, u8s_at hlt, q1, q2, q3, q4]; exact is_rfl))
    | (apply op_no; (case hw => simp [g1, hlt, u8s_at hlt, q1, q2, q3, q4]))
    | refine op_nil ?_ | refine next_normal ?_ | refine go_seq ?_ | refine go_region ?_ | refine go_skip ?_ | refine go_block ?_ | refine inb_normal ?_
    | (apply go_yes; (case hc => simp [g1, hlt, u8s_at hlt, q1, q2, q3, q4])) | (apply go_no; (case hc => simp [g1, hlt, u8s_at hlt, q1, q2, q3, q4]))
    | refine go_exit ?_ | refine next_exit ?_ | refine inb_here ?_ | refine inb_past (by decide) ?_ | refine go_ret ?_ | refine next_ret ?_ | refine inb_ret ?_))
      exact ⟨hlt, by simp, all_step hlt hall hc'⟩
    · have hc' : chOk s[i] = false := by simpa using hc
      rw [all_not hlt hc']
      rw [ch_int] at hc
      simp only [Bool.and_eq_true, decide_eq_true_eq, Bool.not_eq_true', beq_eq_false_iff_ne, ne_eq] at hc
      by_cases q1 : (s[i].toNat : Int) < 33
      · (repeat (first
    | (apply is_ok; (case hw => simp [g1, hlt, u8s_at hlt, q1]); (case he => simp [g1, hlt, u8s_at hlt, q1]; exact is_rfl))
    | (apply op_no; (case hw => simp [g1, hlt, u8s_at hlt, q1]))
    | refine op_nil ?_ | refine next_normal ?_ | refine go_seq ?_ | refine go_region ?_ | refine go_skip ?_ | refine go_block ?_ | refine inb_normal ?_
    | (apply go_yes; (case hc => simp [g1, hlt, u8s_at hlt, q1])) | (apply go_no; (case hc => simp [g1, hlt, u8s_at hlt, q1]))
    | refine go_exit ?_ | refine next_exit ?_ | refine inb_here ?_ | refine inb_past (by decide) ?_ | refine go_ret ?_ | refine next_ret ?_ | refine inb_ret ?_))
        (apply ends_ok; (case h1 => simp; exact is_rfl); (case h2 => simp; exact is_rfl))
        exact ⟨rfl, rfl⟩
      by_cases q2 : (126 : Int) < s[i].toNat
      · (repeat (first
    | (apply is_ok; (case hw => simp [g1, hlt, u8s_at hlt, q1, q2]); (case he => simp [g1, hlt, u8s_at hlt, q1, q2]; exact is_rfl))
    | (apply op_no; (case hw => simp [g1, hlt, u8s_at hlt, q1, q2]))
    | refine op_nil ?_ | refine next_normal ?_ | refine go_seq ?_ | refine go_region ?_ | refine go_skip ?_ | refine go_block ?_ | refine inb_normal ?_
    | (apply go_yes; (case hc => simp [g1, hlt, u8s_at hlt, q1, q2])) | (apply go_no; (case hc => simp [g1, hlt, u8s_at hlt, q1, q2]))
    | refine go_exit ?_ | refine next_exit ?_ | refine inb_here ?_ | refine inb_past (by decide) ?_ | refine go_ret ?_ | refine next_ret ?_ | refine inb_ret ?_))
        (apply ends_ok; (case h1 => simp; exact is_rfl); (case h2 => simp; exact is_rfl))
        exact ⟨rfl, rfl⟩
      have q3 : (s[i].toNat : Int) = 47 := by omega
      (repeat (first
    | (apply is_ok; (case hw => simp [g1, hlt, u8s_at hlt, q1, q2, q3]); (case he => simp [g1, hlt, u8s_at hlt, q1, q2, q3]; exact is_rfl))
    | (apply op_no; (case hw => simp [g1, hlt, u8s_at hlt, q1, q2, q3]))
    | refine op_nil ?_ | refine next_normal ?_ | refine go_seq ?_ | refine go_region ?_ | refine go_skip ?_ | refine go_block ?_ | refine inb_normal ?_
    | (apply go_yes; (case hc => simp [g1, hlt, u8s_at hlt, q1, q2, q3])) | (apply go_no; (case hc => simp [g1, hlt, u8s_at hlt, q1, q2, q3]))
    | refine go_exit ?_ | refine next_exit ?_ | refine inb_here ?_ | refine inb_past (by decide) ?_ | refine go_ret ?_ | refine next_ret ?_ | refine inb_ret ?_))
      (apply ends_ok; (case h1 => simp; exact is_rfl); (case h2 => simp; exact is_rfl))
      exact ⟨rfl, rfl⟩
  · have g1 : ¬ (i : Int) < s.length := by omega
    have : i = s.length := by omega
    subst this
    rw [List.take_length] at hall
    rw [hall]
    (repeat (first
    | (apply is_ok; (case hw => simp [g1]); (case he => simp [g1]; exact is_rfl))
    | (apply op_no; (case hw => simp [g1]))
    | refine op_nil ?_ | refine next_normal ?_ | refine go_seq ?_ | refine go_region ?_ | refine go_skip ?_ | refine go_block ?_ | refine inb_normal ?_
    | (apply go_yes; (case hc => simp [g1])) | (apply go_no; (case hc => simp [g1]))
    | refine go_exit ?_ | refine next_exit ?_ | refine inb_here ?_ | refine inb_past (by decide) ?_ | refine go_ret ?_ | refine next_ret ?_ | refine inb_ret ?_))
    (apply ends_ok; (case h1 => simp; exact is_rfl); (case h2 => simp; exact is_rfl))
    exact ⟨rfl, rfl⟩
end Go.Abs

namespace Go.Abs
open Go.Proofs
set_option maxRecDepth 100000
set_option linter.unusedSimpArgs false
set_option linter.unusedVariables false

theorem dirValid_eq (s : List UInt8) : bodyW DC 139 [.str s] [] = some (.bool (nameOk s), []) := by
  by_cases h1 : s = []
  · subst h1
    (refine gives_iff ?_; refine go_func Tryz.f139 rfl rfl (by simp [Tryz.f139]) ?_; dsimp only [codeL, Tryz.f139, scL, sopsL, guardL, dstAt, loopKey])
    (repeat (first
    | (apply is_ok; (case hw => simp); (case he => simp; exact is_rfl))
    | (apply op_no; (case hw => simp))
    | refine op_nil ?_ | refine next_normal ?_ | refine go_seq ?_ | refine go_region ?_ | refine go_skip ?_ | refine go_block ?_ | refine inb_normal ?_
    | (apply go_yes; (case hc => simp)) | (apply go_no; (case hc => simp))
    | refine go_exit ?_ | refine next_exit ?_ | refine inb_here ?_ | refine inb_past (by decide) ?_ | refine go_ret ?_ | refine next_ret ?_ | refine inb_ret ?_))
    (apply ends_ok; (case h1 => simp; exact is_rfl); (case h2 => simp; exact is_rfl))
    exact ⟨rfl, rfl⟩
  by_cases h2 : s = [46]
  · subst h2
    (refine gives_iff ?_; refine go_func Tryz.f139 rfl rfl (by simp [Tryz.f139]) ?_; dsimp only [codeL, Tryz.f139, scL, sopsL, guardL, dstAt, loopKey])
    (repeat (first
    | (apply is_ok; (case hw => simp); (case he => simp; exact is_rfl))
    | (apply op_no; (case hw => simp))
    | refine op_nil ?_ | refine next_normal ?_ | refine go_seq ?_ | refine go_region ?_ | refine go_skip ?_ | refine go_block ?_ | refine inb_normal ?_
    | (apply go_yes; (case hc => simp)) | (apply go_no; (case hc => simp))
    | refine go_exit ?_ | refine next_exit ?_ | refine inb_here ?_ | refine inb_past (by decide) ?_ | refine go_ret ?_ | refine next_ret ?_ | refine inb_ret ?_))
    (apply ends_ok; (case h1 => simp; exact is_rfl); (case h2 => simp; exact is_rfl))
    exact ⟨rfl, rfl⟩
  by_cases h3 : s = [46, 46]
  · subst h3
    (refine gives_iff ?_; refine go_func Tryz.f139 rfl rfl (by simp [Tryz.f139]) ?_; dsimp only [codeL, Tryz.f139, scL, sopsL, guardL, dstAt, loopKey])
    (repeat (first
    | (apply is_ok; (case hw => simp); (case he => simp; exact is_rfl))
    | (apply op_no; (case hw => simp))
    | refine op_nil ?_ | refine next_normal ?_ | refine go_seq ?_ | refine go_region ?_ | refine go_skip ?_ | refine go_block ?_ | refine inb_normal ?_
    | (apply go_yes; (case hc => simp)) | (apply go_no; (case hc => simp))
    | refine go_exit ?_ | refine next_exit ?_ | refine inb_here ?_ | refine inb_past (by decide) ?_ | refine go_ret ?_ | refine next_ret ?_ | refine inb_ret ?_))
    (apply ends_ok; (case h1 => simp; exact is_rfl); (case h2 => simp; exact is_rfl))
    exact ⟨rfl, rfl⟩
  by_cases h4 : (14 : Int) < s.length
  · have : nameOk s = false := by
      have : decide (s.length ≤ 14) = false := by simp; omega
      simp [nameOk, this]
    rw [this]
    (refine gives_iff ?_; refine go_func Tryz.f139 rfl rfl (by simp [Tryz.f139]) ?_; dsimp only [codeL, Tryz.f139, scL, sopsL, guardL, dstAt, loopKey])
    (repeat (first
    | (apply is_ok; (case hw => simp [h1, h2, h3, h4]); (case he => simp [h1, h2, h3, h4]; exact is_rfl))
    | (apply op_no; (case hw => simp [h1, h2, h3, h4]))
    | refine op_nil ?_ | refine next_normal ?_ | refine go_seq ?_ | refine go_region ?_ | refine go_skip ?_ | refine go_block ?_ | refine inb_normal ?_
    | (apply go_yes; (case hc => simp [h1, h2, h3, h4])) | (apply go_no; (case hc => simp [h1, h2, h3, h4]))
    | refine go_exit ?_ | refine next_exit ?_ | refine inb_here ?_ | refine inb_past (by decide) ?_ | refine go_ret ?_ | refine next_ret ?_ | refine inb_ret ?_))
    (apply ends_ok; (case h1 => simp; exact is_rfl); (case h2 => simp; exact is_rfl))
    exact ⟨rfl, rfl⟩
  have h5 : s.length ≤ room := by unfold room; omega
  have h6 : nameOk s = s.all chOk := by
    have e1 : (s == []) = false := by simpa using h1
    have e2 : (s == [46]) = false := by simpa using h2
    have e3 : (s == [46, 46]) = false := by simpa using h3
    have e4 : decide (s.length ≤ 14) = true := by simp; omega
    unfold nameOk
    rw [e1, e2, e3, e4]
    simp
  rw [h6]
  (refine gives_iff ?_; refine go_func Tryz.f139 rfl rfl (by simp [Tryz.f139]) ?_; dsimp only [codeL, Tryz.f139, scL, sopsL, guardL, dstAt, loopKey])
  (repeat (first
    | (apply is_ok; (case hw => simp [h1, h2, h3, h4, h5]); (case he => simp [h1, h2, h3, h4, h5]; exact is_rfl))
    | (apply op_no; (case hw => simp [h1, h2, h3, h4, h5]))
    | refine op_nil ?_ | refine next_normal ?_ | refine go_seq ?_ | refine go_region ?_ | refine go_skip ?_ | refine go_block ?_ | refine inb_normal ?_
    | (apply go_yes; (case hc => simp [h1, h2, h3, h4, h5])) | (apply go_no; (case hc => simp [h1, h2, h3, h4, h5]))
    | refine go_exit ?_ | refine next_exit ?_ | refine inb_here ?_ | refine inb_past (by decide) ?_ | refine go_ret ?_ | refine next_ret ?_ | refine inb_ret ?_))
  refine go_count s.length (fun i => [(21, .own 0 s.length 0 s.length), (22, .int .i64 s.length), (23, .int .i64 i)]) (fun _ => [.dat true 1 (u8s s)]) (fun i => (s.take i).all chOk = true) (by simp) rfl fun i hi hall => ?_
  by_cases hlt : i < s.length
  · have g1 : (i : Int) < s.length := by omega
    by_cases hc : chOk s[i] = true
    · have hc' := hc
      rw [ch_int] at hc
      simp only [Bool.and_eq_true, decide_eq_true_eq, Bool.not_eq_true', beq_eq_false_iff_ne, ne_eq] at hc
      have q1 : ¬ (s[i].toNat : Int) < 33 := by omega
      have q2 : ¬ (126 : Int) < s[i].toNat := by omega
      have q3 : ¬ (s[i].toNat : Int) = 47 := hc.2
      have q4 : IntKind.i64.wrap ((i : Int) + 1) = (i : Int) + 1 := wrap_id (by omega) (by omega)
      (repeat (first
    | (apply is_ok; (case hw => simp [g1, hlt, u8s_at hlt, q1, q2, q3, q4]); (case he => simp [g1, hlt, u8s_at hlt, q1, q2, q3, q4]; exact is_rfl))
    | (apply op_no; (case hw => simp [g1, hlt, u8s_at hlt, q1, q2, q3, q4]))
    | refine op_nil ?_ | refine next_normal ?_ | refine go_seq ?_ | refine go_region ?_ | refine go_skip ?_ | refine go_block ?_ | refine inb_normal ?_
    | (apply go_yes; (case hc => simp [g1, hlt, u8s_at hlt, q1, q2, q3, q4])) | (apply go_no; (case hc => simp [g1, hlt, u8s_at hlt, q1, q2, q3, q4]))
    | refine go_exit ?_ | refine next_exit ?_ | refine inb_here ?_ | refine inb_past (by decide) ?_ | refine go_ret ?_ | refine next_ret ?_ | refine inb_ret ?_))
      exact ⟨hlt, by simp, all_step hlt hall hc'⟩
    · have hc' : chOk s[i] = false := by simpa using hc
      rw [all_not hlt hc']
      rw [ch_int] at hc
      simp only [Bool.and_eq_true, decide_eq_true_eq, Bool.not_eq_true', beq_eq_false_iff_ne, ne_eq] at hc
      by_cases q1 : (s[i].toNat : Int) < 33
      · (repeat (first
    | (apply is_ok; (case hw => simp [g1, hlt, u8s_at hlt, q1]); (case he => simp [g1, hlt, u8s_at hlt, q1]; exact is_rfl))
    | (apply op_no; (case hw => simp [g1, hlt, u8s_at hlt, q1]))
    | refine op_nil ?_ | refine next_normal ?_ | refine go_seq ?_ | refine go_region ?_ | refine go_skip ?_ | refine go_block ?_ | refine inb_normal ?_
    | (apply go_yes; (case hc => simp [g1, hlt, u8s_at hlt, q1])) | (apply go_no; (case hc => simp [g1, hlt, u8s_at hlt, q1]))
    | refine go_exit ?_ | refine next_exit ?_ | refine inb_here ?_ | refine inb_past (by decide) ?_ | refine go_ret ?_ | refine next_ret ?_ | refine inb_ret ?_))
        (apply ends_ok; (case h1 => simp; exact is_rfl); (case h2 => simp; exact is_rfl))
        exact ⟨rfl, rfl⟩
      by_cases q2 : (126 : Int) < s[i].toNat
      · (repeat (first
    | (apply is_ok; (case hw => simp [g1, hlt, u8s_at hlt, q1, q2]); (case he => simp [g1, hlt, u8s_at hlt, q1, q2]; exact is_rfl))
    | (apply op_no; (case hw => simp [g1, hlt, u8s_at hlt, q1, q2]))
    | refine op_nil ?_ | refine next_normal ?_ | refine go_seq ?_ | refine go_region ?_ | refine go_skip ?_ | refine go_block ?_ | refine inb_normal ?_
    | (apply go_yes; (case hc => simp [g1, hlt, u8s_at hlt, q1, q2])) | (apply go_no; (case hc => simp [g1, hlt, u8s_at hlt, q1, q2]))
    | refine go_exit ?_ | refine next_exit ?_ | refine inb_here ?_ | refine inb_past (by decide) ?_ | refine go_ret ?_ | refine next_ret ?_ | refine inb_ret ?_))
        (apply ends_ok; (case h1 => simp; exact is_rfl); (case h2 => simp; exact is_rfl))
        exact ⟨rfl, rfl⟩
      have q3 : (s[i].toNat : Int) = 47 := by omega
      (repeat (first
    | (apply is_ok; (case hw => simp [g1, hlt, u8s_at hlt, q1, q2, q3]); (case he => simp [g1, hlt, u8s_at hlt, q1, q2, q3]; exact is_rfl))
    | (apply op_no; (case hw => simp [g1, hlt, u8s_at hlt, q1, q2, q3]))
    | refine op_nil ?_ | refine next_normal ?_ | refine go_seq ?_ | refine go_region ?_ | refine go_skip ?_ | refine go_block ?_ | refine inb_normal ?_
    | (apply go_yes; (case hc => simp [g1, hlt, u8s_at hlt, q1, q2, q3])) | (apply go_no; (case hc => simp [g1, hlt, u8s_at hlt, q1, q2, q3]))
    | refine go_exit ?_ | refine next_exit ?_ | refine inb_here ?_ | refine inb_past (by decide) ?_ | refine go_ret ?_ | refine next_ret ?_ | refine inb_ret ?_))
      (apply ends_ok; (case h1 => simp; exact is_rfl); (case h2 => simp; exact is_rfl))
      exact ⟨rfl, rfl⟩
  · have g1 : ¬ (i : Int) < s.length := by omega
    have : i = s.length := by omega
    subst this
    rw [List.take_length] at hall
    rw [hall]
    (repeat (first
    | (apply is_ok; (case hw => simp [g1]); (case he => simp [g1]; exact is_rfl))
    | (apply op_no; (case hw => simp [g1]))
    | refine op_nil ?_ | refine next_normal ?_ | refine go_seq ?_ | refine go_region ?_ | refine go_skip ?_ | refine go_block ?_ | refine inb_normal ?_
    | (apply go_yes; (case hc => simp [g1])) | (apply go_no; (case hc => simp [g1]))
    | refine go_exit ?_ | refine next_exit ?_ | refine inb_here ?_ | refine inb_past (by decide) ?_ | refine go_ret ?_ | refine next_ret ?_ | refine inb_ret ?_))
    (apply ends_ok; (case h1 => simp; exact is_rfl); (case h2 => simp; exact is_rfl))
    exact ⟨rfl, rfl⟩

theorem nameOk_all {s : List UInt8} (h1 : ¬ s = []) (h2 : ¬ s = [46]) (h3 : ¬ s = [46, 46]) (h4 : ¬ (14 : Int) < s.length) : nameOk s = s.all chOk := by
  have e1 : (s == []) = false := by simpa using h1
  have e2 : (s == [46]) = false := by simpa using h2
  have e3 : (s == [46, 46]) = false := by simpa using h3
  have e4 : decide (s.length ≤ 14) = true := by simp; omega
  unfold nameOk
  rw [e1, e2, e3, e4]
  simp

theorem refValid_eq (s : List UInt8) : bodyW DC 112 [.str s] [] = some (.bool (nameOk s), []) := by
  by_cases h1 : s = []
  · subst h1
    (refine gives_iff ?_; refine go_func Tryz.f112 rfl rfl (by simp [Tryz.f112]) ?_; dsimp only [codeL, Tryz.f112, scL, sopsL, guardL, dstAt, loopKey])
    (repeat (first
    | (apply is_ok; (case hw => simp); (case he => simp; exact is_rfl))
    | (apply op_no; (case hw => simp))
    | refine op_nil ?_ | refine next_normal ?_ | refine go_seq ?_ | refine go_region ?_ | refine go_skip ?_ | refine go_block ?_ | refine inb_normal ?_
    | (apply go_yes; (case hc => simp)) | (apply go_no; (case hc => simp))
    | refine go_exit ?_ | refine next_exit ?_ | refine inb_here ?_ | refine inb_past (by decide) ?_ | refine go_ret ?_ | refine next_ret ?_ | refine inb_ret ?_))
    (apply ends_ok; (case h1 => simp; exact is_rfl); (case h2 => simp; exact is_rfl))
    exact ⟨rfl, rfl⟩
  have h0 : ¬ (s.length : Int) < 1 := by
    have := List.length_pos_iff.2 h1
    omega
  by_cases h4 : (14 : Int) < s.length
  · have : nameOk s = false := by
      have : decide (s.length ≤ 14) = false := by simp; omega
      simp [nameOk, this]
    rw [this]
    (refine gives_iff ?_; refine go_func Tryz.f112 rfl rfl (by simp [Tryz.f112]) ?_; dsimp only [codeL, Tryz.f112, scL, sopsL, guardL, dstAt, loopKey])
    (repeat (first
    | (apply is_ok; (case hw => simp [h1, h0, h4]); (case he => simp [h1, h0, h4]; exact is_rfl))
    | (apply op_no; (case hw => simp [h1, h0, h4]))
    | refine op_nil ?_ | refine next_normal ?_ | refine go_seq ?_ | refine go_region ?_ | refine go_skip ?_ | refine go_block ?_ | refine inb_normal ?_
    | (apply go_yes; (case hc => simp [h1, h0, h4])) | (apply go_no; (case hc => simp [h1, h0, h4]))
    | refine go_exit ?_ | refine next_exit ?_ | refine inb_here ?_ | refine inb_past (by decide) ?_ | refine go_ret ?_ | refine next_ret ?_ | refine inb_ret ?_))
    (apply ends_ok; (case h1 => simp; exact is_rfl); (case h2 => simp; exact is_rfl))
    exact ⟨rfl, rfl⟩
  by_cases h2 : s = [46]
  · subst h2
    (refine gives_iff ?_; refine go_func Tryz.f112 rfl rfl (by simp [Tryz.f112]) ?_; dsimp only [codeL, Tryz.f112, scL, sopsL, guardL, dstAt, loopKey])
    (repeat (first
    | (apply is_ok; (case hw => simp); (case he => simp; exact is_rfl))
    | (apply op_no; (case hw => simp))
    | refine op_nil ?_ | refine next_normal ?_ | refine go_seq ?_ | refine go_region ?_ | refine go_skip ?_ | refine go_block ?_ | refine inb_normal ?_
    | (apply go_yes; (case hc => simp)) | (apply go_no; (case hc => simp))
    | refine go_exit ?_ | refine next_exit ?_ | refine inb_here ?_ | refine inb_past (by decide) ?_ | refine go_ret ?_ | refine next_ret ?_ | refine inb_ret ?_))
    (apply ends_ok; (case h1 => simp; exact is_rfl); (case h2 => simp; exact is_rfl))
    exact ⟨rfl, rfl⟩
  by_cases h3 : s = [46, 46]
  · subst h3
    (refine gives_iff ?_; refine go_func Tryz.f112 rfl rfl (by simp [Tryz.f112]) ?_; dsimp only [codeL, Tryz.f112, scL, sopsL, guardL, dstAt, loopKey])
    (repeat (first
    | (apply is_ok; (case hw => simp); (case he => simp; exact is_rfl))
    | (apply op_no; (case hw => simp))
    | refine op_nil ?_ | refine next_normal ?_ | refine go_seq ?_ | refine go_region ?_ | refine go_skip ?_ | refine go_block ?_ | refine inb_normal ?_
    | (apply go_yes; (case hc => simp)) | (apply go_no; (case hc => simp))
    | refine go_exit ?_ | refine next_exit ?_ | refine inb_here ?_ | refine inb_past (by decide) ?_ | refine go_ret ?_ | refine next_ret ?_ | refine inb_ret ?_))
    (apply ends_ok; (case h1 => simp; exact is_rfl); (case h2 => simp; exact is_rfl))
    exact ⟨rfl, rfl⟩
  rw [nameOk_all h1 h2 h3 h4]
  (refine gives_iff ?_; refine go_func Tryz.f112 rfl rfl (by simp [Tryz.f112]) ?_; dsimp only [codeL, Tryz.f112, scL, sopsL, guardL, dstAt, loopKey])
  (repeat (first
    | (apply is_ok; (case hw => simp [h0, h1, h2, h3, h4]); (case he => simp [h0, h1, h2, h3, h4]; exact is_rfl))
    | (apply op_no; (case hw => simp [h0, h1, h2, h3, h4]))
    | refine op_nil ?_ | refine next_normal ?_ | refine go_seq ?_ | refine go_region ?_ | refine go_skip ?_ | refine go_block ?_ | refine inb_normal ?_
    | (apply go_yes; (case hc => simp [h0, h1, h2, h3, h4])) | (apply go_no; (case hc => simp [h0, h1, h2, h3, h4]))
    | refine go_exit ?_ | refine next_exit ?_ | refine inb_here ?_ | refine inb_past (by decide) ?_ | refine go_ret ?_ | refine next_ret ?_ | refine inb_ret ?_))
  refine go_count s.length (fun i => [(0, .str s), (3, .int .i64 i)]) (fun _ => []) (fun i => (s.take i).all chOk = true) (by simp) rfl fun i hi hall => ?_
  by_cases hlt : i < s.length
  · have g1 : (i : Int) < s.length := by omega
    have g2 : s[i]? = some s[i] := List.getElem?_eq_getElem hlt
    by_cases hc : chOk s[i] = true
    · have hc' := hc
      rw [ch_int] at hc
      simp only [Bool.and_eq_true, decide_eq_true_eq, Bool.not_eq_true', beq_eq_false_iff_ne, ne_eq] at hc
      have q1 : ¬ (s[i].toNat : Int) < 33 := by omega
      have q2 : ¬ (126 : Int) < s[i].toNat := by omega
      have q3 : ¬ (s[i].toNat : Int) = 47 := hc.2
      have q4 : IntKind.i64.wrap ((i : Int) + 1) = (i : Int) + 1 := wrap_id (by omega) (by omega)
      (repeat (first
    | (apply is_ok; (case hw => simp [g1, hlt, g2, q1, q2, q3, q4]); (case he => simp [g1, hlt, g2, q1, q2, q3, q4]; exact is_rfl))
    | (apply op_no; (case hw => simp [g1, hlt, g2, q1, q2, q3, q4]))
    | refine op_nil ?_ | refine next_normal ?_ | refine go_seq ?_ | refine go_region ?_ | refine go_skip ?_ | refine go_block ?_ | refine inb_normal ?_
    | (apply go_yes; (case hc => simp [g1, hlt, g2, q1, q2, q3, q4])) | (apply go_no; (case hc => simp [g1, hlt, g2, q1, q2, q3, q4]))
    | refine go_exit ?_ | refine next_exit ?_ | refine inb_here ?_ | refine inb_past (by decide) ?_ | refine go_ret ?_ | refine next_ret ?_ | refine inb_ret ?_))
      exact ⟨hlt, by simp, all_step hlt hall hc'⟩
    · have hc' : chOk s[i] = false := by simpa using hc
      rw [all_not hlt hc']
      rw [ch_int] at hc
      simp only [Bool.and_eq_true, decide_eq_true_eq, Bool.not_eq_true', beq_eq_false_iff_ne, ne_eq] at hc
      by_cases q1 : (s[i].toNat : Int) < 33
      · (repeat (first
    | (apply is_ok; (case hw => simp [g1, hlt, g2, q1]); (case he => simp [g1, hlt, g2, q1]; exact is_rfl))
    | (apply op_no; (case hw => simp [g1, hlt, g2, q1]))
    | refine op_nil ?_ | refine next_normal ?_ | refine go_seq ?_ | refine go_region ?_ | refine go_skip ?_ | refine go_block ?_ | refine inb_normal ?_
    | (apply go_yes; (case hc => simp [g1, hlt, g2, q1])) | (apply go_no; (case hc => simp [g1, hlt, g2, q1]))
    | refine go_exit ?_ | refine next_exit ?_ | refine inb_here ?_ | refine inb_past (by decide) ?_ | refine go_ret ?_ | refine next_ret ?_ | refine inb_ret ?_))
        (apply ends_ok; (case h1 => simp; exact is_rfl); (case h2 => simp; exact is_rfl))
        exact ⟨rfl, rfl⟩
      by_cases q2 : (126 : Int) < s[i].toNat
      · (repeat (first
    | (apply is_ok; (case hw => simp [g1, hlt, g2, q1, q2]); (case he => simp [g1, hlt, g2, q1, q2]; exact is_rfl))
    | (apply op_no; (case hw => simp [g1, hlt, g2, q1, q2]))
    | refine op_nil ?_ | refine next_normal ?_ | refine go_seq ?_ | refine go_region ?_ | refine go_skip ?_ | refine go_block ?_ | refine inb_normal ?_
    | (apply go_yes; (case hc => simp [g1, hlt, g2, q1, q2])) | (apply go_no; (case hc => simp [g1, hlt, g2, q1, q2]))
    | refine go_exit ?_ | refine next_exit ?_ | refine inb_here ?_ | refine inb_past (by decide) ?_ | refine go_ret ?_ | refine next_ret ?_ | refine inb_ret ?_))
        (apply ends_ok; (case h1 => simp; exact is_rfl); (case h2 => simp; exact is_rfl))
        exact ⟨rfl, rfl⟩
      have q3 : (s[i].toNat : Int) = 47 := by omega
      (repeat (first
    | (apply is_ok; (case hw => simp [g1, hlt, g2, q1, q2, q3]); (case he => simp [g1, hlt, g2, q1, q2, q3]; exact is_rfl))
    | (apply op_no; (case hw => simp [g1, hlt, g2, q1, q2, q3]))
    | refine op_nil ?_ | refine next_normal ?_ | refine go_seq ?_ | refine go_region ?_ | refine go_skip ?_ | refine go_block ?_ | refine inb_normal ?_
    | (apply go_yes; (case hc => simp [g1, hlt, g2, q1, q2, q3])) | (apply go_no; (case hc => simp [g1, hlt, g2, q1, q2, q3]))
    | refine go_exit ?_ | refine next_exit ?_ | refine inb_here ?_ | refine inb_past (by decide) ?_ | refine go_ret ?_ | refine next_ret ?_ | refine inb_ret ?_))
      (apply ends_ok; (case h1 => simp; exact is_rfl); (case h2 => simp; exact is_rfl))
      exact ⟨rfl, rfl⟩
  · have g1 : ¬ (i : Int) < s.length := by omega
    have : i = s.length := by omega
    subst this
    rw [List.take_length] at hall
    rw [hall]
    (repeat (first
    | (apply is_ok; (case hw => simp [g1]); (case he => simp [g1]; exact is_rfl))
    | (apply op_no; (case hw => simp [g1]))
    | refine op_nil ?_ | refine next_normal ?_ | refine go_seq ?_ | refine go_region ?_ | refine go_skip ?_ | refine go_block ?_ | refine inb_normal ?_
    | (apply go_yes; (case hc => simp [g1])) | (apply go_no; (case hc => simp [g1]))
    | refine go_exit ?_ | refine next_exit ?_ | refine inb_here ?_ | refine inb_past (by decide) ?_ | refine go_ret ?_ | refine next_ret ?_ | refine inb_ret ?_))
    (apply ends_ok; (case h1 => simp; exact is_rfl); (case h2 => simp; exact is_rfl))
    exact ⟨rfl, rfl⟩
end Go.Abs

namespace Go.Abs
open Go.Proofs
set_option maxRecDepth 100000
set_option linter.unusedSimpArgs false
set_option linter.unusedVariables false

/-- An entry of a directory. -/
def entV (p : List UInt8 × Int) : V := .agg [.str p.1, .int .i64 p.2]
end Go.Abs

namespace Go.Abs
open Go.Proofs
set_option maxRecDepth 100000
set_option linter.unusedSimpArgs false
set_option linter.unusedVariables false

@[simp] theorem hasRoL_ent (l : List (List UInt8 × Int)) : hasRoL (l.map entV) = false := by
  rw [hasRoL_any, List.any_eq_false]
  intro x hx
  obtain ⟨w, _, rfl⟩ := List.mem_map.1 hx
  simp [entV]
@[simp] theorem refsL_ent (l : List (List UInt8 × Int)) : refsL (l.map entV) = [] := refsL_none fun x hx => by obtain ⟨a, _, rfl⟩ := List.mem_map.1 hx; simp [entV]
@[simp] theorem renL_ent (ρ : Nat → Option Nat) (l : List (List UInt8 × Int)) : renL ρ (l.map entV) = l.map entV := renL_same fun x hx => by obtain ⟨a, _, rfl⟩ := List.mem_map.1 hx; simp [entV]

def Few (l : List (List UInt8 × Int)) : Prop := l.length ≤ 70 ∧ ∀ p ∈ l, p.1.length ≤ 20
instance (l : List (List UInt8 × Int)) : Decidable (Few l) := inferInstanceAs (Decidable (_ ∧ _))

end Go.Abs

namespace Go.Abs
open Go.Proofs
set_option maxRecDepth 100000
set_option linter.unusedSimpArgs false
set_option linter.unusedVariables false

/-- The inode of a name. -/
def idxE (s : List UInt8) : List (List UInt8 × Int) → Option Nat
  | [] => none
  | p :: l => if p.1 = s then some 0 else (idxE s l).map (· + 1)
theorem idxE_lt {s : List UInt8} : ∀ {l : List (List UInt8 × Int)} {i : Nat}, idxE s l = some i → ∃ h : i < l.length, l[i].1 = s
  | [], i, h => by cases h
  | p :: l, i, h => by
    rw [idxE] at h
    split at h
    · rename_i hp
      cases h
      exact ⟨by simp, hp⟩
    · rw [Option.map_eq_some_iff] at h
      obtain ⟨j, hj, rfl⟩ := h
      obtain ⟨h1, h2⟩ := idxE_lt hj
      exact ⟨by simpa using h1, h2⟩
theorem idxE_none {s : List UInt8} : ∀ {l : List (List UInt8 × Int)}, idxE s l = none ↔ ∀ p ∈ l, p.1 ≠ s
  | [] => by simp [idxE]
  | p :: l => by
    rw [idxE]
    by_cases hp : p.1 = s
    · simp [hp]
    · simp [hp, idxE_none (l := l)]
theorem idxE_at {s : List UInt8} : ∀ {l : List (List UInt8 × Int)} {i : Nat} (h : i < l.length), l[i].1 = s → (∀ p ∈ l.take i, p.1 ≠ s) → idxE s l = some i
  | p :: l, 0, h, h1, _ => by rw [idxE, if_pos (show p.1 = s from h1)]
  | p :: l, i + 1, h, h1, h2 => by
    rw [idxE, if_neg (h2 p (by simp)), idxE_at (l := l) (i := i) (by simpa using h) h1 (fun q hq => h2 q (by simp [hq]))]
    rfl
theorem take_ne {l : List (List UInt8 × Int)} {i : Nat} {s : List UInt8} (hlt : i < l.length) (hI : ∀ p ∈ l.take i, p.1 ≠ s) (h : l[i].1 ≠ s) : ∀ p ∈ l.take (i + 1), p.1 ≠ s := fun p hp => by
  rw [List.take_succ_eq_append_getElem hlt] at hp
  rcases List.mem_append.1 hp with h1 | h1
  · exact hI p h1
  · simp at h1; subst h1; exact h

theorem index_eq (l : List (List UInt8 × Int)) (hl : l.length ≤ maxLen) (s : List UInt8) : bodyW DC 108 [.sl (l.map entV), .str s] [] = some (.int .i64 (match idxE s l with | some i => (i : Int) | none => -1), []) := by
  (refine gives_iff ?_; refine go_func Tryz.f108 rfl rfl (by simp [Tryz.f108]) ?_; dsimp only [codeL, Tryz.f108, scL, sopsL, guardL, dstAt, loopKey])
  (repeat (first
    | (apply is_ok; (case hw => simp); (case he => simp; exact is_rfl))
    | (apply op_no; (case hw => simp))
    | refine op_nil ?_ | refine next_normal ?_ | refine go_seq ?_ | refine go_region ?_ | refine go_skip ?_ | refine go_block ?_ | refine inb_normal ?_
    | (apply go_yes; (case hc => simp)) | (apply go_no; (case hc => simp))
    | refine go_exit ?_ | refine next_exit ?_ | refine inb_here ?_ | refine inb_past (by decide) ?_ | refine go_ret ?_ | refine next_ret ?_ | refine inb_ret ?_))
  refine go_count l.length (fun i => [(0, .sl (l.map entV)), (1, .str s), (5, .int .i64 i)]) (fun _ => []) (fun i => ∀ p ∈ l.take i, p.1 ≠ s) (by simp) (by simp) fun i hi hI => ?_
  by_cases hlt : i < l.length
  · have g1 : (i : Int) < l.length := by omega
    have g2 : l[i]? = some l[i] := List.getElem?_eq_getElem hlt
    have w1 : IntKind.i64.wrap ((i : Int) + 1) = (i : Int) + 1 := wrap_id (by omega) (by unfold maxLen at hl; omega)
    by_cases hc : l[i].1 = s
    · rw [idxE_at hlt hc hI]
      (repeat (first
    | (apply is_ok; (case hw => simp [g1, g2, hlt, hc, entV]); (case he => simp [g1, g2, hlt, hc, entV]; exact is_rfl))
    | (apply op_no; (case hw => simp [g1, g2, hlt, hc, entV]))
    | refine op_nil ?_ | refine next_normal ?_ | refine go_seq ?_ | refine go_region ?_ | refine go_skip ?_ | refine go_block ?_ | refine inb_normal ?_
    | (apply go_yes; (case hc => simp [g1, g2, hlt, hc, entV])) | (apply go_no; (case hc => simp [g1, g2, hlt, hc, entV]))
    | refine go_exit ?_ | refine next_exit ?_ | refine inb_here ?_ | refine inb_past (by decide) ?_ | refine go_ret ?_ | refine next_ret ?_ | refine inb_ret ?_))
      (apply ends_ok; (case h1 => simp; exact is_rfl); (case h2 => simp; exact is_rfl))
      exact ⟨rfl, rfl⟩
    · (repeat (first
    | (apply is_ok; (case hw => simp [g1, g2, hlt, hc, w1, entV]); (case he => simp [g1, g2, hlt, hc, w1, entV]; exact is_rfl))
    | (apply op_no; (case hw => simp [g1, g2, hlt, hc, w1, entV]))
    | refine op_nil ?_ | refine next_normal ?_ | refine go_seq ?_ | refine go_region ?_ | refine go_skip ?_ | refine go_block ?_ | refine inb_normal ?_
    | (apply go_yes; (case hc => simp [g1, g2, hlt, hc, w1, entV])) | (apply go_no; (case hc => simp [g1, g2, hlt, hc, w1, entV]))
    | refine go_exit ?_ | refine next_exit ?_ | refine inb_here ?_ | refine inb_past (by decide) ?_ | refine go_ret ?_ | refine next_ret ?_ | refine inb_ret ?_))
      exact ⟨hlt, by simp [w1, entV], take_ne hlt hI hc⟩
  · have g1 : ¬ (i : Int) < l.length := by omega
    rw [List.take_of_length_le (by omega)] at hI
    rw [idxE_none.2 hI]
    (repeat (first
    | (apply is_ok; (case hw => simp [g1]); (case he => simp [g1]; exact is_rfl))
    | (apply op_no; (case hw => simp [g1]))
    | refine op_nil ?_ | refine next_normal ?_ | refine go_seq ?_ | refine go_region ?_ | refine go_skip ?_ | refine go_block ?_ | refine inb_normal ?_
    | (apply go_yes; (case hc => simp [g1])) | (apply go_no; (case hc => simp [g1]))
    | refine go_exit ?_ | refine next_exit ?_ | refine inb_here ?_ | refine inb_past (by decide) ?_ | refine go_ret ?_ | refine next_ret ?_ | refine inb_ret ?_))
    (apply ends_ok; (case h1 => simp; exact is_rfl); (case h2 => simp; exact is_rfl))
    exact ⟨rfl, rfl⟩

/-- What Find returns. -/
def findV (l : List (List UInt8 × Int)) (s : List UInt8) : V := match idxE s l with
  | some i => .tuple [.int .i64 (l.getD i ([], 0)).2, .bool true]
  | none => .tuple [.int .i64 0, .bool false]

theorem FindR_eq (l : List (List UInt8 × Int)) (hl : l.length ≤ maxLen) (s : List UInt8) : bodyW DC 49 [.sl (l.map entV), .str s] [] = some (findV l s, []) := by
  have hx := index_eq l hl s
  unfold findV
  cases hi : idxE s l with
  | none =>
    rw [hi] at hx
    simp only at hx
    (refine gives_iff ?_; refine go_func Tryz.f49 rfl rfl (by simp [Tryz.f49]) ?_; dsimp only [codeL, Tryz.f49, scL, sopsL, guardL, dstAt, loopKey])
    (repeat (first
    | (apply is_ok; (case hw => simp [hx]); (case he => simp [hx]; exact is_rfl))
    | (apply op_no; (case hw => simp [hx]))
    | refine op_nil ?_ | refine next_normal ?_ | refine go_seq ?_ | refine go_region ?_ | refine go_skip ?_ | refine go_block ?_ | refine inb_normal ?_
    | (apply go_yes; (case hc => simp [hx])) | (apply go_no; (case hc => simp [hx]))
    | refine go_exit ?_ | refine next_exit ?_ | refine inb_here ?_ | refine inb_past (by decide) ?_ | refine go_ret ?_ | refine next_ret ?_ | refine inb_ret ?_))
    (apply ends_ok; (case h1 => simp; exact is_rfl); (case h2 => simp; exact is_rfl))
    exact ⟨rfl, rfl⟩
  | some i =>
    rw [hi] at hx
    simp only at hx
    obtain ⟨hlt, _⟩ := idxE_lt hi
    have g1 : (0 : Int) ≤ i := by omega
    have g2 : l[i]? = some l[i] := List.getElem?_eq_getElem hlt
    have g3 : (i : Int) < l.length := by omega
    (refine gives_iff ?_; refine go_func Tryz.f49 rfl rfl (by simp [Tryz.f49]) ?_; dsimp only [codeL, Tryz.f49, scL, sopsL, guardL, dstAt, loopKey])
    (repeat (first
    | (apply is_ok; (case hw => simp [hx, g1, g2, g3, hlt, entV]); (case he => simp [hx, g1, g2, g3, hlt, entV]; exact is_rfl))
    | (apply op_no; (case hw => simp [hx, g1, g2, g3, hlt, entV]))
    | refine op_nil ?_ | refine next_normal ?_ | refine go_seq ?_ | refine go_region ?_ | refine go_skip ?_ | refine go_block ?_ | refine inb_normal ?_
    | (apply go_yes; (case hc => simp [hx, g1, g2, g3, hlt, entV])) | (apply go_no; (case hc => simp [hx, g1, g2, g3, hlt, entV]))
    | refine go_exit ?_ | refine next_exit ?_ | refine inb_here ?_ | refine inb_past (by decide) ?_ | refine go_ret ?_ | refine next_ret ?_ | refine inb_ret ?_))
    (apply ends_ok; (case h1 => simp; exact is_rfl); (case h2 => simp; exact is_rfl))
    simp [g2, hlt]

theorem Find_eq (l : List (List UInt8 × Int)) (hl : l.length ≤ maxLen) (s : List UInt8) : bodyW DC 41 [.sl (l.map entV), .str s] [] = some (findV l s, []) := by
  unfold findV
  (refine gives_iff ?_; refine go_func Tryz.f41 rfl rfl (by simp [Tryz.f41]) ?_; dsimp only [codeL, Tryz.f41, scL, sopsL, guardL, dstAt, loopKey])
  (repeat (first
    | (apply is_ok; (case hw => simp); (case he => simp; exact is_rfl))
    | (apply op_no; (case hw => simp))
    | refine op_nil ?_ | refine next_normal ?_ | refine go_seq ?_ | refine go_region ?_ | refine go_skip ?_ | refine go_block ?_ | refine inb_normal ?_
    | (apply go_yes; (case hc => simp)) | (apply go_no; (case hc => simp))
    | refine go_exit ?_ | refine next_exit ?_ | refine inb_here ?_ | refine inb_past (by decide) ?_ | refine go_ret ?_ | refine next_ret ?_ | refine inb_ret ?_))
  refine go_count l.length (fun i => [(1, .str s), (8, .sl (l.map entV)), (9, .int .i64 l.length), (10, .int .i64 i)]) (fun _ => []) (fun i => ∀ p ∈ l.take i, p.1 ≠ s) (by simp) (by simp) fun i hi hI => ?_
  by_cases hlt : i < l.length
  · have g1 : (i : Int) < l.length := by omega
    have g2 : l[i]? = some l[i] := List.getElem?_eq_getElem hlt
    have w1 : IntKind.i64.wrap ((i : Int) + 1) = (i : Int) + 1 := wrap_id (by omega) (by unfold maxLen at hl; omega)
    by_cases hc : l[i].1 = s
    · rw [idxE_at hlt hc hI]
      (repeat (first
    | (apply is_ok; (case hw => simp [g1, g2, hlt, hc, entV]); (case he => simp [g1, g2, hlt, hc, entV]; exact is_rfl))
    | (apply op_no; (case hw => simp [g1, g2, hlt, hc, entV]))
    | refine op_nil ?_ | refine next_normal ?_ | refine go_seq ?_ | refine go_region ?_ | refine go_skip ?_ | refine go_block ?_ | refine inb_normal ?_
    | (apply go_yes; (case hc => simp [g1, g2, hlt, hc, entV])) | (apply go_no; (case hc => simp [g1, g2, hlt, hc, entV]))
    | refine go_exit ?_ | refine next_exit ?_ | refine inb_here ?_ | refine inb_past (by decide) ?_ | refine go_ret ?_ | refine next_ret ?_ | refine inb_ret ?_))
      (apply ends_ok; (case h1 => simp; exact is_rfl); (case h2 => simp; exact is_rfl))
      simp [g2, hlt]
    · (repeat (first
    | (apply is_ok; (case hw => simp [g1, g2, hlt, hc, w1, entV]); (case he => simp [g1, g2, hlt, hc, w1, entV]; exact is_rfl))
    | (apply op_no; (case hw => simp [g1, g2, hlt, hc, w1, entV]))
    | refine op_nil ?_ | refine next_normal ?_ | refine go_seq ?_ | refine go_region ?_ | refine go_skip ?_ | refine go_block ?_ | refine inb_normal ?_
    | (apply go_yes; (case hc => simp [g1, g2, hlt, hc, w1, entV])) | (apply go_no; (case hc => simp [g1, g2, hlt, hc, w1, entV]))
    | refine go_exit ?_ | refine next_exit ?_ | refine inb_here ?_ | refine inb_past (by decide) ?_ | refine go_ret ?_ | refine next_ret ?_ | refine inb_ret ?_))
      exact ⟨hlt, by simp [w1, entV], take_ne hlt hI hc⟩
  · have g1 : ¬ (i : Int) < l.length := by omega
    rw [List.take_of_length_le (by omega)] at hI
    rw [idxE_none.2 hI]
    (repeat (first
    | (apply is_ok; (case hw => simp [g1]); (case he => simp [g1]; exact is_rfl))
    | (apply op_no; (case hw => simp [g1]))
    | refine op_nil ?_ | refine next_normal ?_ | refine go_seq ?_ | refine go_region ?_ | refine go_skip ?_ | refine go_block ?_ | refine inb_normal ?_
    | (apply go_yes; (case hc => simp [g1])) | (apply go_no; (case hc => simp [g1]))
    | refine go_exit ?_ | refine next_exit ?_ | refine inb_here ?_ | refine inb_past (by decide) ?_ | refine go_ret ?_ | refine next_ret ?_ | refine inb_ret ?_))
    (apply ends_ok; (case h1 => simp; exact is_rfl); (case h2 => simp; exact is_rfl))
    exact ⟨rfl, rfl⟩

theorem eqL_ent (i j : Int) (s u : List UInt8) : eqL Tryz.prog 10000 135 [.str s, .int .i64 i] [.str u, .int .i64 j] = some (decide (s = u) && decide (i = j)) := by
  have s1 : Tryz.prog.stoodInHeld 135 = false := by kernel_rfl
  have o1 : okT Tryz.prog 3 = true := by kernel_rfl
  have o2 : okT Tryz.prog 9 = true := by kernel_rfl
  have z1 : sizeL Tryz.prog 3 = 1 := by kernel_rfl
  have z2 : sizeL Tryz.prog 9 = 1 := by kernel_rfl
  rw [show (10000 : Nat) = 9997 + 3 from rfl]
  generalize 9997 = n
  simp [eqL, eqFs, eqNs, s1, o1, o2, z1, z2, Tryz.underlying135, Tryz.underlying9, Tryz.underlying3]
  rw [Bool.eq_iff_iff]
  simp
theorem ent_neq (s : List UInt8) (i : Int) : binV Tryz.prog .neq 135 (.agg [.str s, .int .i64 i]) (.agg [.str s, .int .i64 i]) = some (.bool false) := by
  have h := (binV_agg (P := Tryz.prog) (t := 135) (d := 10000) rfl (by kernel_rfl) (by kernel_rfl) rfl rfl (eqL_ent i i s s)).2
  simp only [decide_true, Bool.and_self, Bool.not_true] at h
  exact h

/-- Is a number that of an inode? -/
def inoOk (n : Int) : Bool := decide (1 ≤ n) && decide (n < 32)
theorem right_eq (n : Int) : bodyW DC 140 [.int .i64 n] [] = some (.bool (inoOk n), []) := by
  unfold inoOk
  by_cases h1 : 1 ≤ n <;>
  · (refine gives_iff ?_; refine go_func Tryz.f140 rfl rfl (by simp [Tryz.f140]) ?_; dsimp only [codeL, Tryz.f140, scL, sopsL, guardL, dstAt, loopKey])
    (repeat (first
    | (apply is_ok; (case hw => simp [h1]); (case he => simp [h1]; exact is_rfl))
    | (apply op_no; (case hw => simp [h1]))
    | refine op_nil ?_ | refine next_normal ?_ | refine go_seq ?_ | refine go_region ?_ | refine go_skip ?_ | refine go_block ?_ | refine inb_normal ?_
    | (apply go_yes; (case hc => simp [h1])) | (apply go_no; (case hc => simp [h1]))
    | refine go_exit ?_ | refine next_exit ?_ | refine inb_here ?_ | refine inb_past (by decide) ?_ | refine go_ret ?_ | refine next_ret ?_ | refine inb_ret ?_))
    (apply ends_ok; (case h1 => simp; exact is_rfl); (case h2 => simp; exact is_rfl))
    simp [h1]
def entOk (p : List UInt8 × Int) : Bool := nameOk p.1 && inoOk p.2
theorem entry_eq (p : List UInt8 × Int) : bodyW DC 184 [entV p] [] = some (.bool (entOk p), []) := by
  have h := refValid_eq p.1
  unfold entOk inoOk
  generalize nameOk p.1 = b at h
  cases b <;> by_cases h1 : 1 ≤ p.2 <;>
  · (refine gives_iff ?_; refine go_func Tryz.f184 rfl rfl (by simp [Tryz.f184]) ?_; dsimp only [codeL, Tryz.f184, scL, sopsL, guardL, dstAt, loopKey])
    (repeat (first
    | (apply is_ok; (case hw => simp [h, h1, entV]); (case he => simp [h, h1, entV]; exact is_rfl))
    | (apply op_no; (case hw => simp [h, h1, entV]))
    | refine op_nil ?_ | refine next_normal ?_ | refine go_seq ?_ | refine go_region ?_ | refine go_skip ?_ | refine go_block ?_ | refine inb_normal ?_
    | (apply go_yes; (case hc => simp [h, h1, entV])) | (apply go_no; (case hc => simp [h, h1, entV]))
    | refine go_exit ?_ | refine next_exit ?_ | refine inb_here ?_ | refine inb_past (by decide) ?_ | refine go_ret ?_ | refine next_ret ?_ | refine inb_ret ?_))
    (apply ends_ok; (case h1 => simp; exact is_rfl); (case h2 => simp; exact is_rfl))
    simp [h1]
end Go.Abs

namespace Go.Abs
open Go.Proofs
set_option maxRecDepth 100000
set_option linter.unusedSimpArgs false
set_option linter.unusedVariables false

theorem bl_eq (x y : List UInt8) : Op.bytesLess x y = decide (x < y) := bytesLess_eq x y
theorem bl_le (x y : List UInt8) : (Op.bytesLess x y || x == y) = !Op.bytesLess y x := by
  rw [bl_eq, bl_eq]
  have h : (x < y ∨ x = y) ↔ ¬ y < x := by
    rw [List.not_lt]
    exact List.le_iff_lt_or_eq.symm
  rw [Bool.eq_iff_iff]
  simp only [Bool.or_eq_true, decide_eq_true_eq, beq_iff_eq, Bool.not_eq_true', decide_eq_false_iff_not]
  exact h
theorem bl_nil {x : List UInt8} (h : x ≠ []) : Op.bytesLess [] x = true := by
  cases x with
  | nil => exact absurd rfl h
  | cons a l => rfl

/-- Are entries valid, and ascending behind a name? -/
def validB (last : List UInt8) : List (List UInt8 × Int) → Bool
  | [] => true
  | p :: l => entOk p && Op.bytesLess last p.1 && validB p.1 l
def lastN (l : List (List UInt8 × Int)) : Nat → List UInt8
  | 0 => []
  | i + 1 => (l.getD i ([], 0)).1

theorem valid_eq (l : List (List UInt8 × Int)) (hl : l.length ≤ maxLen) : bodyW DC 145 [.sl (l.map entV)] [] = some (.bool (validB [] l && decide (l.length ≤ 64)), []) := by
  generalize hR : validB [] l = R
  (refine gives_iff ?_; refine go_func Tryz.f145 rfl rfl (by simp [Tryz.f145]) ?_; dsimp only [codeL, Tryz.f145, scL, sopsL, guardL, dstAt, loopKey])
  (repeat (first
    | (apply is_ok; (case hw => simp); (case he => simp; exact is_rfl))
    | (apply op_no; (case hw => simp))
    | refine op_nil ?_ | refine next_normal ?_ | refine go_seq ?_ | refine go_region ?_ | refine go_skip ?_ | refine go_block ?_ | refine inb_normal ?_
    | (apply go_yes; (case hc => simp)) | (apply go_no; (case hc => simp))
    | refine go_exit ?_ | refine next_exit ?_ | refine inb_here ?_ | refine inb_past (by decide) ?_ | refine go_ret ?_ | refine next_ret ?_ | refine inb_ret ?_))
  refine go_count l.length (fun i => [(0, .sl (l.map entV)), (3, .str (lastN l i)), (6, .sl (l.map entV)), (7, .int .i64 l.length), (8, .int .i64 i)]) (fun _ => []) (fun i => validB (lastN l i) (l.drop i) = R) (by simp [lastN]) (by simpa [lastN] using hR) fun i hi hI => ?_
  by_cases hlt : i < l.length
  · have g1 : (i : Int) < l.length := by omega
    have g2 : l[i]? = some l[i] := List.getElem?_eq_getElem hlt
    have w1 : IntKind.i64.wrap ((i : Int) + 1) = (i : Int) + 1 := wrap_id (by omega) (by unfold maxLen at hl; omega)
    have v1 := dirValid_eq l[i].1
    have v2 := right_eq l[i].2
    have g3 : lastN l (i + 1) = l[i].1 := by simp [lastN, g2]
    have g4 := bl_le l[i].1 (lastN l i)
    rw [List.drop_eq_getElem_cons hlt, validB, entOk] at hI
    generalize nameOk l[i].1 = b1 at v1 hI
    generalize inoOk l[i].2 = b2 at v2 hI
    generalize lastN l i = lst at hI g4
    cases b1 with
    | false =>
      simp at hI
      subst hI
      (repeat (first
    | (apply is_ok; (case hw => simp [g1, g2, hlt, v1, v2, entV]); (case he => simp [g1, g2, hlt, v1, v2, entV]; exact is_rfl))
    | (apply op_no; (case hw => simp [g1, g2, hlt, v1, v2, entV]))
    | refine op_nil ?_ | refine next_normal ?_ | refine go_seq ?_ | refine go_region ?_ | refine go_skip ?_ | refine go_block ?_ | refine inb_normal ?_
    | (apply go_yes; (case hc => simp [g1, g2, hlt, v1, v2, entV])) | (apply go_no; (case hc => simp [g1, g2, hlt, v1, v2, entV]))
    | refine go_exit ?_ | refine next_exit ?_ | refine inb_here ?_ | refine inb_past (by decide) ?_ | refine go_ret ?_ | refine next_ret ?_ | refine inb_ret ?_))
      (apply ends_ok; (case h1 => simp; exact is_rfl); (case h2 => simp; exact is_rfl))
      simp
    | true =>
    cases b2 with
    | false =>
      simp at hI
      subst hI
      (repeat (first
    | (apply is_ok; (case hw => simp [g1, g2, hlt, v1, v2, entV]); (case he => simp [g1, g2, hlt, v1, v2, entV]; exact is_rfl))
    | (apply op_no; (case hw => simp [g1, g2, hlt, v1, v2, entV]))
    | refine op_nil ?_ | refine next_normal ?_ | refine go_seq ?_ | refine go_region ?_ | refine go_skip ?_ | refine go_block ?_ | refine inb_normal ?_
    | (apply go_yes; (case hc => simp [g1, g2, hlt, v1, v2, entV])) | (apply go_no; (case hc => simp [g1, g2, hlt, v1, v2, entV]))
    | refine go_exit ?_ | refine next_exit ?_ | refine inb_here ?_ | refine inb_past (by decide) ?_ | refine go_ret ?_ | refine next_ret ?_ | refine inb_ret ?_))
      (apply ends_ok; (case h1 => simp; exact is_rfl); (case h2 => simp; exact is_rfl))
      simp
    | true =>
    by_cases hc : Op.bytesLess lst l[i].1 = true
    · rw [hc] at hI g4
      simp only [Bool.not_true] at g4
      (repeat (first
    | (apply is_ok; (case hw => simp [g1, g2, hlt, v1, v2, g4, w1, entV]); (case he => simp [g1, g2, hlt, v1, v2, g4, w1, entV]; exact is_rfl))
    | (apply op_no; (case hw => simp [g1, g2, hlt, v1, v2, g4, w1, entV]))
    | refine op_nil ?_ | refine next_normal ?_ | refine go_seq ?_ | refine go_region ?_ | refine go_skip ?_ | refine go_block ?_ | refine inb_normal ?_
    | (apply go_yes; (case hc => simp [g1, g2, hlt, v1, v2, g4, w1, entV])) | (apply go_no; (case hc => simp [g1, g2, hlt, v1, v2, g4, w1, entV]))
    | refine go_exit ?_ | refine next_exit ?_ | refine inb_here ?_ | refine inb_past (by decide) ?_ | refine go_ret ?_ | refine next_ret ?_ | refine inb_ret ?_))
      exact ⟨hlt, by simp [w1, entV, g3], by rw [g3]; simpa using hI⟩
    · rw [show Op.bytesLess lst l[i].1 = false by simpa using hc] at hI g4
      simp only [Bool.not_false] at g4
      simp at hI
      subst hI
      (repeat (first
    | (apply is_ok; (case hw => simp [g1, g2, hlt, v1, v2, g4, entV]); (case he => simp [g1, g2, hlt, v1, v2, g4, entV]; exact is_rfl))
    | (apply op_no; (case hw => simp [g1, g2, hlt, v1, v2, g4, entV]))
    | refine op_nil ?_ | refine next_normal ?_ | refine go_seq ?_ | refine go_region ?_ | refine go_skip ?_ | refine go_block ?_ | refine inb_normal ?_
    | (apply go_yes; (case hc => simp [g1, g2, hlt, v1, v2, g4, entV])) | (apply go_no; (case hc => simp [g1, g2, hlt, v1, v2, g4, entV]))
    | refine go_exit ?_ | refine next_exit ?_ | refine inb_here ?_ | refine inb_past (by decide) ?_ | refine go_ret ?_ | refine next_ret ?_ | refine inb_ret ?_))
      (apply ends_ok; (case h1 => simp; exact is_rfl); (case h2 => simp; exact is_rfl))
      simp
  · have g1 : ¬ (i : Int) < l.length := by omega
    rw [List.drop_eq_nil_of_le (by omega), validB] at hI
    subst hI
    (repeat (first
    | (apply is_ok; (case hw => simp [g1]); (case he => simp [g1]; exact is_rfl))
    | (apply op_no; (case hw => simp [g1]))
    | refine op_nil ?_ | refine next_normal ?_ | refine go_seq ?_ | refine go_region ?_ | refine go_skip ?_ | refine go_block ?_ | refine inb_normal ?_
    | (apply go_yes; (case hc => simp [g1])) | (apply go_no; (case hc => simp [g1]))
    | refine go_exit ?_ | refine next_exit ?_ | refine inb_here ?_ | refine inb_past (by decide) ?_ | refine go_ret ?_ | refine next_ret ?_ | refine inb_ret ?_))
    (apply ends_ok; (case h1 => simp; exact is_rfl); (case h2 => simp; exact is_rfl))
    simp
    omega

theorem entOk_ne {p : List UInt8 × Int} (h : entOk p = true) : p.1 ≠ [] := fun h0 => by
  rw [entOk, h0] at h
  simp [nameOk] at h

theorem dRight_eq (l : List (List UInt8 × Int)) (hl : l.length ≤ maxLen) : bodyW DC 155 [.sl (l.map entV)] [] = some (.bool (validB [] l), []) := by
  generalize hR : validB [] l = R
  (refine gives_iff ?_; refine go_func Tryz.f155 rfl rfl (by simp [Tryz.f155]) ?_; dsimp only [codeL, Tryz.f155, scL, sopsL, guardL, dstAt, loopKey])
  (repeat (first
    | (apply is_ok; (case hw => simp); (case he => simp; exact is_rfl))
    | (apply op_no; (case hw => simp))
    | refine op_nil ?_ | refine next_normal ?_ | refine go_seq ?_ | refine go_region ?_ | refine go_skip ?_ | refine go_block ?_ | refine inb_normal ?_
    | (apply go_yes; (case hc => simp)) | (apply go_no; (case hc => simp))
    | refine go_exit ?_ | refine next_exit ?_ | refine inb_here ?_ | refine inb_past (by decide) ?_ | refine go_ret ?_ | refine next_ret ?_ | refine inb_ret ?_))
  refine go_count l.length (fun i => [(0, .sl (l.map entV)), (3, .int .i64 i)]) (fun _ => []) (fun i => validB (lastN l i) (l.drop i) = R) (by simp) (by simpa [lastN] using hR) fun i hi hI => ?_
  by_cases hlt : i < l.length
  · have g1 : (i : Int) < l.length := by omega
    have g2 : l[i]? = some l[i] := List.getElem?_eq_getElem hlt
    have w1 : IntKind.i64.wrap ((i : Int) + 1) = (i : Int) + 1 := wrap_id (by omega) (by unfold maxLen at hl; omega)
    have v1 := entry_eq l[i]
    rw [entV] at v1
    have g3 : lastN l (i + 1) = l[i].1 := by simp [lastN, g2]
    rw [List.drop_eq_getElem_cons hlt, validB] at hI
    cases hb : entOk l[i] with
    | false =>
      rw [hb] at v1 hI
      simp at hI
      subst hI
      by_cases h0 : (0 : Int) < i
      · have w2 : IntKind.i64.wrap ((i : Int) - 1) = ((i - 1 : Nat) : Int) := by rw [wrap_id (by omega) (by unfold maxLen at hl; omega)]; omega
        have g5 : l[i - 1]? = some l[i - 1] := List.getElem?_eq_getElem (by omega)
        (repeat (first
    | (apply is_ok; (case hw => simp [g1, g2, hlt, v1, entV, w2, h0, g5]); (case he => simp [g1, g2, hlt, v1, entV, w2, h0, g5]; exact is_rfl))
    | (apply op_no; (case hw => simp [g1, g2, hlt, v1, entV, w2, h0, g5]))
    | refine op_nil ?_ | refine next_normal ?_ | refine go_seq ?_ | refine go_region ?_ | refine go_skip ?_ | refine go_block ?_ | refine inb_normal ?_
    | (apply go_yes; (case hc => simp [g1, g2, hlt, v1, entV, w2, h0, g5])) | (apply go_no; (case hc => simp [g1, g2, hlt, v1, entV, w2, h0, g5]))
    | refine go_exit ?_ | refine next_exit ?_ | refine inb_here ?_ | refine inb_past (by decide) ?_ | refine go_ret ?_ | refine next_ret ?_ | refine inb_ret ?_))
        (apply ends_ok; (case h1 => simp; exact is_rfl); (case h2 => simp; exact is_rfl))
        simp
      · (repeat (first
    | (apply is_ok; (case hw => simp [g1, g2, hlt, v1, entV, h0]); (case he => simp [g1, g2, hlt, v1, entV, h0]; exact is_rfl))
    | (apply op_no; (case hw => simp [g1, g2, hlt, v1, entV, h0]))
    | refine op_nil ?_ | refine next_normal ?_ | refine go_seq ?_ | refine go_region ?_ | refine go_skip ?_ | refine go_block ?_ | refine inb_normal ?_
    | (apply go_yes; (case hc => simp [g1, g2, hlt, v1, entV, h0])) | (apply go_no; (case hc => simp [g1, g2, hlt, v1, entV, h0]))
    | refine go_exit ?_ | refine next_exit ?_ | refine inb_here ?_ | refine inb_past (by decide) ?_ | refine go_ret ?_ | refine next_ret ?_ | refine inb_ret ?_))
        (apply ends_ok; (case h1 => simp; exact is_rfl); (case h2 => simp; exact is_rfl))
        simp
    | true =>
      have hne := entOk_ne hb
      rw [hb] at v1 hI
      rw [Bool.true_and] at hI
      by_cases h0 : (0 : Int) < i
      · have w2 : IntKind.i64.wrap ((i : Int) - 1) = ((i - 1 : Nat) : Int) := by rw [wrap_id (by omega) (by unfold maxLen at hl; omega)]; omega
        have g5 : l[i - 1]? = some l[i - 1] := List.getElem?_eq_getElem (by omega)
        have g6 : ((i - 1 : Nat) : Int) < l.length := by omega
        have g7 : i - 1 < l.length := by omega
        have g8 : lastN l i = l[i - 1].1 := by
          obtain ⟨j, rfl⟩ : ∃ j, i = j + 1 := ⟨i - 1, by omega⟩
          simp [lastN, show l[j]? = some l[j] from List.getElem?_eq_getElem (by omega)]
        rw [g8] at hI
        have h0' : 0 < i := by omega
        cases hc : Op.bytesLess l[i - 1].1 l[i].1 with
        | true =>
          rw [hc, Bool.true_and] at hI
          (repeat (first
    | (apply is_ok; (case hw => simp [g1, g2, hlt, v1, entV, w1, w2, h0', g5, g6, g7, hc]); (case he => simp [g1, g2, hlt, v1, entV, w1, w2, h0', g5, g6, g7, hc]; exact is_rfl))
    | (apply op_no; (case hw => simp [g1, g2, hlt, v1, entV, w1, w2, h0', g5, g6, g7, hc]))
    | refine op_nil ?_ | refine next_normal ?_ | refine go_seq ?_ | refine go_region ?_ | refine go_skip ?_ | refine go_block ?_ | refine inb_normal ?_
    | (apply go_yes; (case hc => simp [g1, g2, hlt, v1, entV, w1, w2, h0', g5, g6, g7, hc])) | (apply go_no; (case hc => simp [g1, g2, hlt, v1, entV, w1, w2, h0', g5, g6, g7, hc]))
    | refine go_exit ?_ | refine next_exit ?_ | refine inb_here ?_ | refine inb_past (by decide) ?_ | refine go_ret ?_ | refine next_ret ?_ | refine inb_ret ?_))
          exact ⟨hlt, by simp [w1, entV, g3], by rw [g3]; exact hI⟩
        | false =>
          rw [hc, Bool.false_and] at hI
          subst hI
          (repeat (first
    | (apply is_ok; (case hw => simp [g1, g2, hlt, v1, entV, w1, w2, h0', g5, g6, g7, hc]); (case he => simp [g1, g2, hlt, v1, entV, w1, w2, h0', g5, g6, g7, hc]; exact is_rfl))
    | (apply op_no; (case hw => simp [g1, g2, hlt, v1, entV, w1, w2, h0', g5, g6, g7, hc]))
    | refine op_nil ?_ | refine next_normal ?_ | refine go_seq ?_ | refine go_region ?_ | refine go_skip ?_ | refine go_block ?_ | refine inb_normal ?_
    | (apply go_yes; (case hc => simp [g1, g2, hlt, v1, entV, w1, w2, h0', g5, g6, g7, hc])) | (apply go_no; (case hc => simp [g1, g2, hlt, v1, entV, w1, w2, h0', g5, g6, g7, hc]))
    | refine go_exit ?_ | refine next_exit ?_ | refine inb_here ?_ | refine inb_past (by decide) ?_ | refine go_ret ?_ | refine next_ret ?_ | refine inb_ret ?_))
          (apply ends_ok; (case h1 => simp; exact is_rfl); (case h2 => simp; exact is_rfl))
          simp
      · have : i = 0 := by omega
        subst this
        rw [show lastN l 0 = [] from rfl, bl_nil hne, Bool.true_and] at hI
        (repeat (first
    | (apply is_ok; (case hw => simp [g1, g2, hlt, v1, entV, w1]); (case he => simp [g1, g2, hlt, v1, entV, w1]; exact is_rfl))
    | (apply op_no; (case hw => simp [g1, g2, hlt, v1, entV, w1]))
    | refine op_nil ?_ | refine next_normal ?_ | refine go_seq ?_ | refine go_region ?_ | refine go_skip ?_ | refine go_block ?_ | refine inb_normal ?_
    | (apply go_yes; (case hc => simp [g1, g2, hlt, v1, entV, w1])) | (apply go_no; (case hc => simp [g1, g2, hlt, v1, entV, w1]))
    | refine go_exit ?_ | refine next_exit ?_ | refine inb_here ?_ | refine inb_past (by decide) ?_ | refine go_ret ?_ | refine next_ret ?_ | refine inb_ret ?_))
        exact ⟨hlt, by simp [w1, entV, g3], by rw [g3]; exact hI⟩
  · have g1 : ¬ (i : Int) < l.length := by omega
    rw [List.drop_eq_nil_of_le (by omega), validB] at hI
    subst hI
    (repeat (first
    | (apply is_ok; (case hw => simp [g1]); (case he => simp [g1]; exact is_rfl))
    | (apply op_no; (case hw => simp [g1]))
    | refine op_nil ?_ | refine next_normal ?_ | refine go_seq ?_ | refine go_region ?_ | refine go_skip ?_ | refine go_block ?_ | refine inb_normal ?_
    | (apply go_yes; (case hc => simp [g1])) | (apply go_no; (case hc => simp [g1]))
    | refine go_exit ?_ | refine next_exit ?_ | refine inb_here ?_ | refine inb_past (by decide) ?_ | refine go_ret ?_ | refine next_ret ?_ | refine inb_ret ?_))
    (apply ends_ok; (case h1 => simp; exact is_rfl); (case h2 => simp; exact is_rfl))
    simp
end Go.Abs

namespace Go.Abs
open Go.Proofs
set_option maxRecDepth 100000
set_option linter.unusedSimpArgs false
set_option linter.unusedVariables false

/-- Where a name stands, or would stand. -/
structure PosE (l : List (List UInt8 × Int)) (s : List UInt8) (k : Nat) : Prop where
  le : k ≤ l.length
  lo : ∀ i (h : i < l.length), i < k → Op.bytesLess l[i].1 s = true
  hi : ∀ i (h : i < l.length), k ≤ i → Op.bytesLess l[i].1 s = false
theorem PosE.uniq {l : List (List UInt8 × Int)} {s : List UInt8} {k m : Nat} (h : PosE l s k) (h' : PosE l s m) : k = m := by
  rcases Nat.lt_trichotomy k m with h1 | h1 | h1
  · have := h'.le
    have a := h.hi k (by omega) (Nat.le_refl _)
    rw [h'.lo k (by omega) h1] at a
    cases a
  · exact h1
  · have := h.le
    have a := h'.hi m (by omega) (Nat.le_refl _)
    rw [h.lo m (by omega) h1] at a
    cases a

end Go.Abs

namespace Go.Abs
open Go.Proofs
set_option maxRecDepth 100000
set_option linter.unusedSimpArgs false
set_option linter.unusedVariables false

theorem all_ent {L : List V} (l : List (List UInt8 × Int)) (h : ∀ x ∈ L, x ∈ l.map entV) : (L.all fun e => decide (e.cells.length = 2)) = true := by
  rw [List.all_eq_true]
  intro x hx
  obtain ⟨p, _, rfl⟩ := List.mem_map.1 (h x hx)
  rfl
@[simp] theorem all_ent0 (l : List (List UInt8 × Int)) : ((l.map entV).all fun e => decide (e.cells.length = 2)) = true := all_ent l fun x h => h
@[simp] theorem all_entD (l : List (List UInt8 × Int)) (k : Nat) : (((l.map entV).drop k).all fun e => decide (e.cells.length = 2)) = true := all_ent l fun x h => List.mem_of_mem_drop h
@[simp] theorem all_entT (l : List (List UInt8 × Int)) (k : Nat) : (((l.map entV).take k).all fun e => decide (e.cells.length = 2)) = true := all_ent l fun x h => List.mem_of_mem_take h
@[simp] theorem all_entTD (l : List (List UInt8 × Int)) (k m : Nat) : ((((l.map entV).take m).drop k).all fun e => decide (e.cells.length = 2)) = true := all_ent l fun x h => List.mem_of_mem_take (List.mem_of_mem_drop h)
@[simp] theorem all_entDT (l : List (List UInt8 × Int)) (k m : Nat) : ((((l.map entV).drop k).take m).all fun e => decide (e.cells.length = 2)) = true := all_ent l fun x h => List.mem_of_mem_drop (List.mem_of_mem_take h)

end Go.Abs

namespace Go.Abs
open Go.Proofs
set_option maxRecDepth 100000
set_option linter.unusedSimpArgs false
set_option linter.unusedVariables false

end Go.Abs

namespace Go.Abs
open Go.Proofs
set_option maxRecDepth 100000
set_option linter.unusedSimpArgs false
set_option linter.unusedVariables false

end Go.Abs

namespace Go.Abs
open Go.Proofs
set_option maxRecDepth 100000
set_option linter.unusedSimpArgs false
set_option linter.unusedVariables false

def Good39 (l : List (List UInt8 × Int)) : Prop := l.length ≤ 64 ∧ validB [] l = true
instance (l : List (List UInt8 × Int)) : Decidable (Good39 l) := inferInstanceAs (Decidable (_ ∧ _))
end Go.Abs

namespace Go.Abs
open Go.Proofs
set_option maxRecDepth 100000
set_option linter.unusedSimpArgs false
set_option linter.unusedVariables false

def trimL : List UInt8 → List UInt8
  | [] => []
  | b :: l => if b = 0 then trimL l else b :: l
def trimR (s : List UInt8) : List UInt8 := (trimL s.reverse).reverse
theorem trimR_snoc (t : List UInt8) (x : UInt8) : trimR (t ++ [x]) = if x = 0 then trimR t else t ++ [x] := by
  unfold trimR
  rw [List.reverse_append]
  show (trimL (x :: t.reverse)).reverse = _
  rw [trimL]
  split <;> simp
theorem trimRight_eq (s : List UInt8) (hs : s.length ≤ 1000000) : bodyW DC 189 [.str s, .int .u8 0] [] = some (.str (trimR s), []) := by
  generalize hR : trimR s = R
  (refine gives_iff ?_; refine go_func Tryz.f189 rfl rfl (by simp [Tryz.f189]) ?_; dsimp only [codeL, Tryz.f189, scL, sopsL, guardL, dstAt, loopKey])
  (repeat (first
    | (apply is_ok; (case hw => simp); (case he => simp; exact is_rfl))
    | (apply op_no; (case hw => simp))
    | refine op_nil ?_ | refine next_normal ?_ | refine go_seq ?_ | refine go_region ?_ | refine go_skip ?_ | refine go_block ?_ | refine inb_normal ?_
    | (apply go_yes; (case hc => simp)) | (apply go_no; (case hc => simp))
    | refine go_exit ?_ | refine next_exit ?_ | refine inb_here ?_ | refine inb_past (by decide) ?_ | refine go_ret ?_ | refine next_ret ?_ | refine inb_ret ?_))
  refine go_while (σ := List UInt8) (fun s => [(0, .str s), (1, .int .u8 0)]) (fun _ => []) (fun s => trimR s = R ∧ s.length ≤ 1000000) (fun s => s.length) s (by simp) ⟨hR, hs⟩ fun s ⟨hI, hl⟩ => ?_
  rcases List.eq_nil_or_concat s with h0 | ⟨t, x, h0⟩
  · subst h0
    subst hI
    (repeat (first
    | (apply is_ok; (case hw => simp); (case he => simp; exact is_rfl))
    | (apply op_no; (case hw => simp))
    | refine op_nil ?_ | refine next_normal ?_ | refine go_seq ?_ | refine go_region ?_ | refine go_skip ?_ | refine go_block ?_ | refine inb_normal ?_
    | (apply go_yes; (case hc => simp)) | (apply go_no; (case hc => simp))
    | refine go_exit ?_ | refine next_exit ?_ | refine inb_here ?_ | refine inb_past (by decide) ?_ | refine go_ret ?_ | refine next_ret ?_ | refine inb_ret ?_))
    (apply ends_ok; (case h1 => simp; exact is_rfl); (case h2 => simp; exact is_rfl))
    simp [trimR, trimL]
  · subst h0
    rw [List.concat_eq_append] at hI hl ⊢
    rw [trimR_snoc] at hI
    rw [List.length_append, List.length_singleton] at hl
    have h1 : (0 : Int) < (t.length : Int) + 1 := by omega
    have h4 : IntKind.i64.wrap ((t.length : Int) + 1 - 1) = t.length := by rw [wrap_id (by omega) (by omega)]; omega
    have h5 : IntKind.i64.wrap (t.length : Int) = t.length := wrap_id (by omega) (by omega)
    by_cases hb : x = 0
    · subst hb
      rw [if_pos rfl] at hI
      (repeat (first
    | (apply is_ok; (case hw => simp [h1, h4, h5]); (case he => simp [h1, h4, h5]; exact is_rfl))
    | (apply op_no; (case hw => simp [h1, h4, h5]))
    | refine op_nil ?_ | refine next_normal ?_ | refine go_seq ?_ | refine go_region ?_ | refine go_skip ?_ | refine go_block ?_ | refine inb_normal ?_
    | (apply go_yes; (case hc => simp [h1, h4, h5])) | (apply go_no; (case hc => simp [h1, h4, h5]))
    | refine go_exit ?_ | refine next_exit ?_ | refine inb_here ?_ | refine inb_past (by decide) ?_ | refine go_ret ?_ | refine next_ret ?_ | refine inb_ret ?_))
      exact ⟨t, by simp, by simp, hI, by omega⟩
    · rw [if_neg hb] at hI
      subst hI
      have h2 : ¬ ((x.toNat : Int) = 0) := fun h => hb (UInt8.toNat_inj.1 (by simpa using h))
      have h3 : ¬ (x.toNat = 0) := by omega
      (repeat (first
    | (apply is_ok; (case hw => simp [h1, h2, h3, h4, h5, hb]); (case he => simp [h1, h2, h3, h4, h5, hb]; exact is_rfl))
    | (apply op_no; (case hw => simp [h1, h2, h3, h4, h5, hb]))
    | refine op_nil ?_ | refine next_normal ?_ | refine go_seq ?_ | refine go_region ?_ | refine go_skip ?_ | refine go_block ?_ | refine inb_normal ?_
    | (apply go_yes; (case hc => simp [h1, h2, h3, h4, h5, hb])) | (apply go_no; (case hc => simp [h1, h2, h3, h4, h5, hb]))
    | refine go_exit ?_ | refine next_exit ?_ | refine inb_here ?_ | refine inb_past (by decide) ?_ | refine go_ret ?_ | refine next_ret ?_ | refine inb_ret ?_))
      (apply ends_ok; (case h1 => simp; exact is_rfl); (case h2 => simp; exact is_rfl))
      simp

end Go.Abs

namespace Go.Abs
open Go.Proofs
set_option maxRecDepth 100000
set_option linter.unusedSimpArgs false
set_option linter.unusedVariables false

@[simp] theorem all_u8s (s : List UInt8) : ((u8s s).all fun e => decide (e.cells.length = 1)) = true := by
  rw [List.all_eq_true]
  intro x hx
  unfold u8s at hx
  obtain ⟨c, _, rfl⟩ := List.mem_map.1 hx
  rfl
@[simp] theorem refsL_u8s (s : List UInt8) : refsL (u8s s) = [] := refsL_none fun x hx => by obtain ⟨a, _, rfl⟩ := List.mem_map.1 hx; rfl
@[simp] theorem renL_u8s (ρ : Nat → Option Nat) (s : List UInt8) : renL ρ (u8s s) = u8s s := renL_same fun x hx => by obtain ⟨a, _, rfl⟩ := List.mem_map.1 hx; rfl
@[simp] theorem u8s_app (a b : List UInt8) : u8s a ++ u8s b = u8s (a ++ b) := by simp [u8s]
end Go.Abs

namespace Go.Abs
open Go.Proofs
set_option maxRecDepth 100000
set_option linter.unusedSimpArgs false
set_option linter.unusedVariables false

theorem TrimRight_eq (s : List UInt8) (hs : s.length ≤ 1000000) (h0 : ¬ s = []) : bodyW DC 167 [.str s, .str [0]] [] = some (.str (trimR s), []) := by
  have h1 := trimRight_eq s hs
  (refine gives_iff ?_; refine go_func Tryz.f167 rfl rfl (by simp [Tryz.f167]) ?_; dsimp only [codeL, Tryz.f167, scL, sopsL, guardL, dstAt, loopKey])
  (repeat (first
    | (apply is_ok; (case hw => simp [h0, h1]); (case he => simp [h0, h1]; exact is_rfl))
    | (apply op_no; (case hw => simp [h0, h1]))
    | refine op_nil ?_ | refine next_normal ?_ | refine go_seq ?_ | refine go_region ?_ | refine go_skip ?_ | refine go_block ?_ | refine inb_normal ?_
    | (apply go_yes; (case hc => simp [h0, h1])) | (apply go_no; (case hc => simp [h0, h1]))
    | refine go_exit ?_ | refine next_exit ?_ | refine inb_here ?_ | refine inb_past (by decide) ?_ | refine go_ret ?_ | refine next_ret ?_ | refine inb_ret ?_))
  (apply ends_ok; (case h1 => simp; exact is_rfl); (case h2 => simp; exact is_rfl))
  simp

/-- The entry at 16 bytes. -/
def decE (s : List UInt8) (j : Nat) : List UInt8 × Int := (trimR ((s.take (16 * j + 16)).drop (16 * j + 2)), word (s.getD (16 * j) 0) (s.getD (16 * j + 1) 0))
def decL (s : List UInt8) (n : Nat) : List (List UInt8 × Int) := (List.range n).map (decE s)
theorem decL_succ (s : List UInt8) (n : Nat) : decL s (n + 1) = decL s n ++ [decE s n] := by simp [decL, List.range_succ]
@[simp] theorem decL_length (s : List UInt8) (n : Nat) : (decL s n).length = n := by simp [decL]

def parE (s : List UInt8) : Int := if s.length % 16 ≠ 0 then 9 else if validB [] (decL s (s.length / 16)) && decide (s.length / 16 ≤ 64) then 0 else 9
def parR (s : List UInt8) : V × Heap := if parE s = 0 then (.tuple [.own 0 (s.length / 16) 0 (s.length / 16), .int .i64 0], [.dat true 2 ((decL s (s.length / 16)).map entV)])
  else (.tuple [.own 0 0 0 0, .int .i64 9], [.dat true 2 []])
theorem parR_err {s : List UInt8} (h : parE s = 9) : parR s = (.tuple [.own 0 0 0 0, .int .i64 9], [.dat true 2 []]) := by
  unfold parR
  rw [h, if_neg (by decide)]
theorem parR_ok {s : List UInt8} (h : parE s = 0) : parR s = (.tuple [.own 0 (s.length / 16) 0 (s.length / 16), .int .i64 0], [.dat true 2 ((decL s (s.length / 16)).map entV)]) := by
  unfold parR
  rw [h, if_pos rfl]

theorem dParse_eq (s : List UInt8) (hs : s.length ≤ 1200) : bodyW DC 125 [.str s] [] = some (parR s) := by
  by_cases h1 : s.length % 16 = 0
  case neg =>
    rw [parR_err (by simp [parE, h1])]
    have h1' : ¬ (s.length : Int).tmod 16 = 0 := by rw [Int.tmod_eq_emod_of_nonneg (by omega)]; omega
    (refine gives_iff ?_; refine go_func Tryz.f125 rfl rfl (by simp [Tryz.f125]) ?_; dsimp only [codeL, Tryz.f125, scL, sopsL, guardL, dstAt, loopKey])
    (repeat (first
    | (apply is_ok; (case hw => simp [h1']); (case he => simp [h1']; exact is_rfl))
    | (apply op_no; (case hw => simp [h1']))
    | refine op_nil ?_ | refine next_normal ?_ | refine go_seq ?_ | refine go_region ?_ | refine go_skip ?_ | refine go_block ?_ | refine inb_normal ?_
    | (apply go_yes; (case hc => simp [h1'])) | (apply go_no; (case hc => simp [h1']))
    | refine go_exit ?_ | refine next_exit ?_ | refine inb_here ?_ | refine inb_past (by decide) ?_ | refine go_ret ?_ | refine next_ret ?_ | refine inb_ret ?_))
    (apply ends_ok; (case h1 => simp; exact is_rfl); (case h2 => simp; exact is_rfl))
    simp
  have hn : s.length = 16 * (s.length / 16) := by omega
  generalize hN : s.length / 16 = N at hn
  have t0 : (s.length : Int).tmod 16 = 0 := by rw [Int.tmod_eq_emod_of_nonneg (by omega)]; omega
  generalize hR : parR s = R
  (refine gives_iff ?_; refine go_func Tryz.f125 rfl rfl (by simp [Tryz.f125]) ?_; dsimp only [codeL, Tryz.f125, scL, sopsL, guardL, dstAt, loopKey])
  (repeat (first
    | (apply is_ok; (case hw => simp [t0]); (case he => simp [t0]; exact is_rfl))
    | (apply op_no; (case hw => simp [t0]))
    | refine op_nil ?_ | refine next_normal ?_ | refine go_seq ?_ | refine go_region ?_ | refine go_skip ?_ | refine go_block ?_ | refine inb_normal ?_
    | (apply go_yes; (case hc => simp [t0])) | (apply go_no; (case hc => simp [t0]))
    | refine go_exit ?_ | refine next_exit ?_ | refine inb_here ?_ | refine inb_past (by decide) ?_ | refine go_ret ?_ | refine next_ret ?_ | refine inb_ret ?_))
  refine go_count N (fun i => [(0, .str s), (4, .own 0 i 0 i), (5, .int .i64 ((16 * i : Nat) : Int))]) (fun i => [.dat true 2 ((decL s i).map entV)]) (fun _ => True) (by simp [decL]) trivial fun i hi _ => ?_
  by_cases hlt : i < N
  · have v2 := Get_eq s (16 * i) (by omega) (by omega)
    have q0 : s.getD (16 * i) 0 = s[16 * i]'(by omega) := by simp [show 16 * i < s.length by omega]
    have q1 : s.getD (16 * i + 1) 0 = s[16 * i + 1]'(by omega) := by simp [show 16 * i + 1 < s.length by omega]
    have v3 := TrimRight_eq ((s.take (16 * i + 16)).drop (16 * i + 2)) (by simp; omega) (by intro h; have := congrArg List.length h; simp at this; omega)
    have hd := decL_succ s i
    have he : decE s i = (trimR ((s.take (16 * i + 16)).drop (16 * i + 2)), word s[16 * i] s[16 * i + 1]) := by unfold decE; rw [q0, q1]
    rw [hd, he]
    obtain ⟨m, hm⟩ : ∃ m, m = 16 * i := ⟨_, rfl⟩
    have hm2 : ((16 * (i + 1) : Nat) : Int) = (m : Int) + 16 := by omega
    rw [hm2]
    simp only [← hm] at v2 v3 ⊢
    generalize word s[m] s[m + 1] = wd at v2 ⊢
    generalize trimR ((s.take (m + 16)).drop (m + 2)) = tr at v3 ⊢
    have g1 : (m : Int) < s.length := by omega
    have w1 : IntKind.i64.wrap ((m : Int) + 16) = (m : Int) + 16 := wrap_id (by omega) (by omega)
    have b1 : ((m : Int) + 2).toNat = m + 2 := by omega
    have b2 : ((m : Int) + 16).toNat = m + 16 := by omega
    have b3 : (0 : Int) ≤ (m : Int) + 2 := by omega
    have b4 : (0 : Int) ≤ (m : Int) + 16 := by omega
    have b5 : m + 2 ≤ m + 16 := by omega
    have b6 : m + 16 ≤ s.length := by omega
    have r1 : (i + 1) * 24 ≤ room := by unfold room; omega
    have r2 : i + 1 ≤ room := by unfold room; omega
    (repeat (first
    | (apply is_ok; (case hw => simp [g1, v2, v3, w1, b1, b2, b3, b4, b5, b6, r1, r2, entV]); (case he => simp [g1, v2, v3, w1, b1, b2, b3, b4, b5, b6, r1, r2, entV]; exact is_rfl))
    | (apply op_no; (case hw => simp [g1, v2, v3, w1, b1, b2, b3, b4, b5, b6, r1, r2, entV]))
    | refine op_nil ?_ | refine next_normal ?_ | refine go_seq ?_ | refine go_region ?_ | refine go_skip ?_ | refine go_block ?_ | refine inb_normal ?_
    | (apply go_yes; (case hc => simp [g1, v2, v3, w1, b1, b2, b3, b4, b5, b6, r1, r2, entV])) | (apply go_no; (case hc => simp [g1, v2, v3, w1, b1, b2, b3, b4, b5, b6, r1, r2, entV]))
    | refine go_exit ?_ | refine next_exit ?_ | refine inb_here ?_ | refine inb_past (by decide) ?_ | refine go_ret ?_ | refine next_ret ?_ | refine inb_ret ?_))
    exact ⟨hlt, by simp [w1, entV], trivial⟩
  · have : i = N := by omega
    subst this
    have v4 := valid_eq (decL s i) (by simp; unfold maxLen; omega)
    rw [decL_length] at v4
    rw [← hn]
    have g1 : ¬ (s.length : Int) < s.length := by omega
    cases hv : (validB [] (decL s i) && decide (i ≤ 64)) with
    | true =>
      rw [hv] at v4
      have hp : parE s = 0 := by
        unfold parE
        rw [if_neg (by omega), hN, hv]
        rfl
      rw [parR_ok hp, hN] at hR
      subst hR
      (repeat (first
    | (apply is_ok; (case hw => simp [g1, v4]); (case he => simp [g1, v4]; exact is_rfl))
    | (apply op_no; (case hw => simp [g1, v4]))
    | refine op_nil ?_ | refine next_normal ?_ | refine go_seq ?_ | refine go_region ?_ | refine go_skip ?_ | refine go_block ?_ | refine inb_normal ?_
    | (apply go_yes; (case hc => simp [g1, v4])) | (apply go_no; (case hc => simp [g1, v4]))
    | refine go_exit ?_ | refine next_exit ?_ | refine inb_here ?_ | refine inb_past (by decide) ?_ | refine go_ret ?_ | refine next_ret ?_ | refine inb_ret ?_))
      (apply ends_ok; (case h1 => simp; exact is_rfl); (case h2 => simp; exact is_rfl))
      simp
    | false =>
      rw [hv] at v4
      have hp : parE s = 9 := by
        unfold parE
        rw [if_neg (by omega), hN, hv]
        rfl
      rw [parR_err hp] at hR
      subst hR
      (repeat (first
    | (apply is_ok; (case hw => simp [g1, v4]); (case he => simp [g1, v4]; exact is_rfl))
    | (apply op_no; (case hw => simp [g1, v4]))
    | refine op_nil ?_ | refine next_normal ?_ | refine go_seq ?_ | refine go_region ?_ | refine go_skip ?_ | refine go_block ?_ | refine inb_normal ?_
    | (apply go_yes; (case hc => simp [g1, v4])) | (apply go_no; (case hc => simp [g1, v4]))
    | refine go_exit ?_ | refine next_exit ?_ | refine inb_here ?_ | refine inb_past (by decide) ?_ | refine go_ret ?_ | refine next_ret ?_ | refine inb_ret ?_))
      (apply ends_ok; (case h1 => simp; exact is_rfl); (case h2 => simp; exact is_rfl))
      simp

end Go.Abs

namespace Go.Abs
open Go.Proofs
set_option maxRecDepth 100000
set_option linter.unusedSimpArgs false
set_option linter.unusedVariables false

theorem dParseR_eq (s : List UInt8) (hs : s.length ≤ 1200) : bodyW DC 135 [.str s] [] = some (parR s) := by
  by_cases h1 : s.length % 16 = 0
  case neg =>
    rw [parR_err (by simp [parE, h1])]
    have h1' : ¬ (s.length : Int).tmod 16 = 0 := by rw [Int.tmod_eq_emod_of_nonneg (by omega)]; omega
    (refine gives_iff ?_; refine go_func Tryz.f135 rfl rfl (by simp [Tryz.f135]) ?_; dsimp only [codeL, Tryz.f135, scL, sopsL, guardL, dstAt, loopKey])
    (repeat (first
    | (apply is_ok; (case hw => simp [h1']); (case he => simp [h1']; exact is_rfl))
    | (apply op_no; (case hw => simp [h1']))
    | refine op_nil ?_ | refine next_normal ?_ | refine go_seq ?_ | refine go_region ?_ | refine go_skip ?_ | refine go_block ?_ | refine inb_normal ?_
    | (apply go_yes; (case hc => simp [h1'])) | (apply go_no; (case hc => simp [h1']))
    | refine go_exit ?_ | refine next_exit ?_ | refine inb_here ?_ | refine inb_past (by decide) ?_ | refine go_ret ?_ | refine next_ret ?_ | refine inb_ret ?_))
    (apply ends_ok; (case h1 => simp; exact is_rfl); (case h2 => simp; exact is_rfl))
    simp
  have t0 : (s.length : Int).tmod 16 = 0 := by rw [Int.tmod_eq_emod_of_nonneg (by omega)]; omega
  by_cases h2 : (1024 : Int) < s.length
  · have hp : parE s = 9 := by
      unfold parE
      rw [if_neg (by omega), show decide (s.length / 16 ≤ 64) = false by simp; omega, Bool.and_false]
      rfl
    rw [parR_err hp]
    (refine gives_iff ?_; refine go_func Tryz.f135 rfl rfl (by simp [Tryz.f135]) ?_; dsimp only [codeL, Tryz.f135, scL, sopsL, guardL, dstAt, loopKey])
    (repeat (first
    | (apply is_ok; (case hw => simp [t0, h2]); (case he => simp [t0, h2]; exact is_rfl))
    | (apply op_no; (case hw => simp [t0, h2]))
    | refine op_nil ?_ | refine next_normal ?_ | refine go_seq ?_ | refine go_region ?_ | refine go_skip ?_ | refine go_block ?_ | refine inb_normal ?_
    | (apply go_yes; (case hc => simp [t0, h2])) | (apply go_no; (case hc => simp [t0, h2]))
    | refine go_exit ?_ | refine next_exit ?_ | refine inb_here ?_ | refine inb_past (by decide) ?_ | refine go_ret ?_ | refine next_ret ?_ | refine inb_ret ?_))
    (apply ends_ok; (case h1 => simp; exact is_rfl); (case h2 => simp; exact is_rfl))
    simp
  have hn : s.length = 16 * (s.length / 16) := by omega
  generalize hN : s.length / 16 = N at hn
  have hN64 : N ≤ 64 := by omega
  generalize hR : parR s = R
  (refine gives_iff ?_; refine go_func Tryz.f135 rfl rfl (by simp [Tryz.f135]) ?_; dsimp only [codeL, Tryz.f135, scL, sopsL, guardL, dstAt, loopKey])
  (repeat (first
    | (apply is_ok; (case hw => simp [t0, h2]); (case he => simp [t0, h2]; exact is_rfl))
    | (apply op_no; (case hw => simp [t0, h2]))
    | refine op_nil ?_ | refine next_normal ?_ | refine go_seq ?_ | refine go_region ?_ | refine go_skip ?_ | refine go_block ?_ | refine inb_normal ?_
    | (apply go_yes; (case hc => simp [t0, h2])) | (apply go_no; (case hc => simp [t0, h2]))
    | refine go_exit ?_ | refine next_exit ?_ | refine inb_here ?_ | refine inb_past (by decide) ?_ | refine go_ret ?_ | refine next_ret ?_ | refine inb_ret ?_))
  refine go_count N (fun i => [(0, .str s), (4, .own 0 i 0 i), (5, .int .i64 ((16 * i : Nat) : Int))]) (fun i => [.dat true 2 ((decL s i).map entV)]) (fun _ => True) (by simp [decL]) trivial fun i hi _ => ?_
  by_cases hlt : i < N
  · have v2 := GetR_eq s (16 * i) (by omega) (by omega)
    have q0 : s.getD (16 * i) 0 = s[16 * i]'(by omega) := by simp [show 16 * i < s.length by omega]
    have q1 : s.getD (16 * i + 1) 0 = s[16 * i + 1]'(by omega) := by simp [show 16 * i + 1 < s.length by omega]
    have hd := decL_succ s i
    have he : decE s i = (trimR ((s.take (16 * i + 16)).drop (16 * i + 2)), word s[16 * i] s[16 * i + 1]) := by unfold decE; rw [q0, q1]
    rw [hd, he]
    obtain ⟨m, hm⟩ : ∃ m, m = 16 * i := ⟨_, rfl⟩
    have hm2 : ((16 * (i + 1) : Nat) : Int) = (m : Int) + 16 := by omega
    rw [hm2]
    have hnl : ((s.take (16 * i + 16)).drop (16 * i + 2)).length = 14 := by simp; omega
    simp only [← hm] at v2 hnl ⊢
    generalize word s[m] s[m + 1] = wd at v2 ⊢
    generalize hnm : (s.take (m + 16)).drop (m + 2) = nm at hnl ⊢
    have g1 : (m : Int) < s.length := by omega
    have w1 : IntKind.i64.wrap ((m : Int) + 16) = (m : Int) + 16 := wrap_id (by omega) (by omega)
    have w2 : IntKind.i64.wrap ((m : Int) + 2) = (m : Int) + 2 := wrap_id (by omega) (by omega)
    have b1 : ((m : Int) + 2).toNat = m + 2 := by omega
    have b2 : ((m : Int) + 16).toNat = m + 16 := by omega
    have b3 : (0 : Int) ≤ (m : Int) + 2 := by omega
    have b4 : (0 : Int) ≤ (m : Int) + 16 := by omega
    have b5 : m + 2 ≤ m + 16 := by omega
    have b6 : m + 16 ≤ s.length := by omega
    have r1 : (i + 1) * 24 ≤ room := by unfold room; omega
    have r2 : i + 1 ≤ room := by unfold room; omega
    generalize hT : trimR nm = tr
    (repeat (first
    | (apply is_ok; (case hw => simp [g1, v2, w1, w2, b1, b2, b3, b4, b5, b6, hnm, hnl]); (case he => simp [g1, v2, w1, w2, b1, b2, b3, b4, b5, b6, hnm, hnl]; exact is_rfl))
    | (apply op_no; (case hw => simp [g1, v2, w1, w2, b1, b2, b3, b4, b5, b6, hnm, hnl]))
    | refine op_nil ?_ | refine next_normal ?_ | refine go_seq ?_ | refine go_region ?_ | refine go_skip ?_ | refine go_block ?_ | refine inb_normal ?_
    | (apply go_yes; (case hc => simp [g1, v2, w1, w2, b1, b2, b3, b4, b5, b6, hnm, hnl])) | (apply go_no; (case hc => simp [g1, v2, w1, w2, b1, b2, b3, b4, b5, b6, hnm, hnl]))
    | refine go_exit ?_ | refine next_exit ?_ | refine inb_here ?_ | refine inb_past (by decide) ?_ | refine go_ret ?_ | refine next_ret ?_ | refine inb_ret ?_))
    refine go_while (σ := Nat) (fun c => [(0, .str s), (4, .own 0 i 0 i), (5, .int .i64 m), (6, .ptr 1 1 0 0), (7, .str nm), (8, .int .i64 c)]) (fun c => [.dat true 2 ((decL s i).map entV), .box (.agg [.str [], .int .i64 wd])])
      (fun c => c ≤ 14 ∧ trimR (nm.take c) = tr) (fun c => c) 14 (by simp) ⟨by omega, by rw [List.take_of_length_le (by omega)]; exact hT⟩ fun c hc => ?_
    obtain ⟨hc1, hc2⟩ := hc
    cases c with
    | zero =>
      have : tr = [] := by rw [← hc2]; rfl
      subst this
      (repeat (first
    | (apply is_ok; (case hw => simp [r1, r2, w1]); (case he => simp [r1, r2, w1]; exact is_rfl))
    | (apply op_no; (case hw => simp [r1, r2, w1]))
    | refine op_nil ?_ | refine next_normal ?_ | refine go_seq ?_ | refine go_region ?_ | refine go_skip ?_ | refine go_block ?_ | refine inb_normal ?_
    | (apply go_yes; (case hc => simp [r1, r2, w1])) | (apply go_no; (case hc => simp [r1, r2, w1]))
    | refine go_exit ?_ | refine next_exit ?_ | refine inb_here ?_ | refine inb_past (by decide) ?_ | refine go_ret ?_ | refine next_ret ?_ | refine inb_ret ?_))
      exact ⟨hlt, by simp [w1, entV], trivial⟩
    | succ c =>
      have hcl : c < nm.length := by omega
      have g3 : nm[c]? = some nm[c] := List.getElem?_eq_getElem hcl
      have w3 : IntKind.i64.wrap (c : Int) = c := wrap_id (by omega) (by omega)
      have g4 : (0 : Int) < (c : Int) + 1 := by omega
      have g5 : (c : Int) < 14 := by omega
      rw [List.take_succ_eq_append_getElem hcl, trimR_snoc] at hc2
      by_cases hz : nm[c] = 0
      · rw [if_pos hz] at hc2
        (repeat (first
    | (apply is_ok; (case hw => simp [g3, g4, g5, w3, hnl, hz, hcl]); (case he => simp [g3, g4, g5, w3, hnl, hz, hcl]; exact is_rfl))
    | (apply op_no; (case hw => simp [g3, g4, g5, w3, hnl, hz, hcl]))
    | refine op_nil ?_ | refine next_normal ?_ | refine go_seq ?_ | refine go_region ?_ | refine go_skip ?_ | refine go_block ?_ | refine inb_normal ?_
    | (apply go_yes; (case hc => simp [g3, g4, g5, w3, hnl, hz, hcl])) | (apply go_no; (case hc => simp [g3, g4, g5, w3, hnl, hz, hcl]))
    | refine go_exit ?_ | refine next_exit ?_ | refine inb_here ?_ | refine inb_past (by decide) ?_ | refine go_ret ?_ | refine next_ret ?_ | refine inb_ret ?_))
        exact ⟨c, by simp, by simp, by omega, hc2⟩
      · rw [if_neg hz, ← List.take_succ_eq_append_getElem hcl] at hc2
        have hz2 : ¬ (nm[c].toNat : Int) = 0 := fun h => hz (UInt8.toNat_inj.1 (by simpa using h))
        have hz3 : ¬ nm[c].toNat = 0 := by omega
        obtain ⟨q, hq⟩ : ∃ q, q = c + 1 := ⟨_, rfl⟩
        rw [← hq] at hc2 ⊢
        have w3 : IntKind.i64.wrap ((q : Int) - 1) = c := by rw [wrap_id (by omega) (by omega)]; omega
        have g6 : 0 < q := by omega
        have g7 : q ≤ 14 := by omega
        (repeat (first
    | (apply is_ok; (case hw => simp [g3, g4, g5, g6, g7, w3, hnl, hz2, hz3, hcl, hc2, r1, r2, w1]); (case he => simp [g3, g4, g5, g6, g7, w3, hnl, hz2, hz3, hcl, hc2, r1, r2, w1]; exact is_rfl))
    | (apply op_no; (case hw => simp [g3, g4, g5, g6, g7, w3, hnl, hz2, hz3, hcl, hc2, r1, r2, w1]))
    | refine op_nil ?_ | refine next_normal ?_ | refine go_seq ?_ | refine go_region ?_ | refine go_skip ?_ | refine go_block ?_ | refine inb_normal ?_
    | (apply go_yes; (case hc => simp [g3, g4, g5, g6, g7, w3, hnl, hz2, hz3, hcl, hc2, r1, r2, w1])) | (apply go_no; (case hc => simp [g3, g4, g5, g6, g7, w3, hnl, hz2, hz3, hcl, hc2, r1, r2, w1]))
    | refine go_exit ?_ | refine next_exit ?_ | refine inb_here ?_ | refine inb_past (by decide) ?_ | refine go_ret ?_ | refine next_ret ?_ | refine inb_ret ?_))
        exact ⟨hlt, by simp [w1, entV], trivial⟩
  · have : i = N := by omega
    subst this
    have v4 := dRight_eq (decL s i) (by simp; unfold maxLen; omega)
    rw [← hn]
    have g1 : ¬ (s.length : Int) < s.length := by omega
    cases hv : validB [] (decL s i) with
    | true =>
      rw [hv] at v4
      have hp : parE s = 0 := by
        unfold parE
        rw [if_neg (by omega), hN, hv, decide_eq_true hN64]
        rfl
      rw [parR_ok hp, hN] at hR
      subst hR
      (repeat (first
    | (apply is_ok; (case hw => simp [g1, v4]); (case he => simp [g1, v4]; exact is_rfl))
    | (apply op_no; (case hw => simp [g1, v4]))
    | refine op_nil ?_ | refine next_normal ?_ | refine go_seq ?_ | refine go_region ?_ | refine go_skip ?_ | refine go_block ?_ | refine inb_normal ?_
    | (apply go_yes; (case hc => simp [g1, v4])) | (apply go_no; (case hc => simp [g1, v4]))
    | refine go_exit ?_ | refine next_exit ?_ | refine inb_here ?_ | refine inb_past (by decide) ?_ | refine go_ret ?_ | refine next_ret ?_ | refine inb_ret ?_))
      (apply ends_ok; (case h1 => simp; exact is_rfl); (case h2 => simp; exact is_rfl))
      simp
    | false =>
      rw [hv] at v4
      have hp : parE s = 9 := by
        unfold parE
        rw [if_neg (by omega), hN, hv]
        rfl
      rw [parR_err hp] at hR
      subst hR
      (repeat (first
    | (apply is_ok; (case hw => simp [g1, v4]); (case he => simp [g1, v4]; exact is_rfl))
    | (apply op_no; (case hw => simp [g1, v4]))
    | refine op_nil ?_ | refine next_normal ?_ | refine go_seq ?_ | refine go_region ?_ | refine go_skip ?_ | refine go_block ?_ | refine inb_normal ?_
    | (apply go_yes; (case hc => simp [g1, v4])) | (apply go_no; (case hc => simp [g1, v4]))
    | refine go_exit ?_ | refine next_exit ?_ | refine inb_here ?_ | refine inb_past (by decide) ?_ | refine go_ret ?_ | refine next_ret ?_ | refine inb_ret ?_))
      (apply ends_ok; (case h1 => simp; exact is_rfl); (case h2 => simp; exact is_rfl))
      simp
end Go.Abs

