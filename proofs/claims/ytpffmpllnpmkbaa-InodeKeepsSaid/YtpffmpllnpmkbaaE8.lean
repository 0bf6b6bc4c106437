/- Proved here: what functions of the program compute, over the evaluator. No condition but those that each theorem states. -/
import Derived.Test.YtpffmpllnpmkbaaE7
import Derived.Test.YtpffmpllnpmkbaaD5
namespace Go.Abs
open Go.Proofs
set_option maxRecDepth 100000
set_option linter.unusedSimpArgs false
set_option linter.unusedVariables false

@[simp] theorem sealL_ints (H : Heap) (k : IntKind) (L : List Int) : sealL H (L.map (V.int k)) = some (L.map (V.int k), []) := by
  induction L with
  | nil => rfl
  | cons a L ih => simp [ih]
@[simp] theorem sealL_strs (H : Heap) (L : List (List UInt8)) : sealL H (L.map V.str) = some (L.map V.str, []) := by
  induction L with
  | nil => rfl
  | cons a L ih => simp [ih]

section
variable {P : Program}
@[simp] theorem binV_ii (op : BinOp) (t : TypeId) (k k' : IntKind) (a b : Int) : binV P op t (.int k a) (.int k' b) = if isShift op then shiftOp op k a b else if k = k' then intOp op k a b else none := rfl
@[simp] theorem binV_ss (op : BinOp) (t : TypeId) (a b : List UInt8) : binV P op t (.str a) (.str b) = strOp op a b := rfl
@[simp] theorem binV_bb (op : BinOp) (t : TypeId) (a b : Bool) : binV P op t (.bool a) (.bool b) = if P.underlying t matches some .bool then match op with
    | .eql => some (.bool (a == b))
    | .neq => some (.bool (!(a == b)))
    | _ => none
    else none := rfl
end

/-- The value of an encoding, its cells told. -/
theorem parseV_shape (s : List UInt8) : ∃ k l z a b c d e f g h, parseV s = .agg [.int .i64 k, .int .i64 l, .int .i64 z, .int .i64 a, .int .i64 b, .int .i64 c, .int .i64 d, .int .i64 e, .int .i64 f, .int .i64 g, .int .i64 h] ∧ In64 [k, l, z, a, b, c, d, e, f, g, h] := by
  unfold parseV
  split
  · exact ⟨_, _, _, _, _, _, _, _, _, _, _, rfl, in64_wd s⟩
  · exact ⟨0, 0, 0, 0, 0, 0, 0, 0, 0, 0, 0, rfl, by intro x hx; simp at hx; omega⟩
theorem same_ino (k l z a b c d e f g h : Int) : binV Try.prog .eql 24 (.agg [.int .i64 k, .int .i64 l, .int .i64 z, .int .i64 a, .int .i64 b, .int .i64 c, .int .i64 d, .int .i64 e, .int .i64 f, .int .i64 g, .int .i64 h])
    (.agg [.int .i64 k, .int .i64 l, .int .i64 z, .int .i64 a, .int .i64 b, .int .i64 c, .int .i64 d, .int .i64 e, .int .i64 f, .int .i64 g, .int .i64 h]) = some (.bool true) := by
  have := (eq_ino k l z k l z [a, b, c, d, e, f, g, h] [a, b, c, d, e, f, g, h] rfl rfl).1
  rw [decide_eq_true ⟨rfl, rfl, rfl, rfl⟩] at this
  exact this

theorem InodeParses_eq (k l z : Int) (L : List Int) (hL : L.length = 8) (hX : In64 (k :: l :: z :: L)) (s : List UInt8) : bodyW DC 3 [inoV k l z L, .str s] [] = some (.bool true, []) := by
  by_cases hs : s.length ≤ 1000
  case neg =>
    have hs' : (1000 : Int) < s.length := by omega
    (refine gives_iff ?_; refine go_func Try.f3 rfl rfl (by simp [Try.f3]) ?_; dsimp only [codeL, Try.f3, scL, sopsL, guardL, dstAt, loopKey])
    (repeat (first
    | (apply is_ok; (case hw => simp [hL, hs']); (case he => simp [hL, hs']; exact is_rfl))
    | (apply op_no; (case hw => simp [hL, hs']))
    | refine op_nil ?_ | refine next_normal ?_ | refine go_seq ?_ | refine go_region ?_ | refine go_skip ?_ | refine go_block ?_ | refine inb_normal ?_
    | (apply go_yes; (case hc => simp [hL, hs'])) | (apply go_no; (case hc => simp [hL, hs']))
    | refine go_exit ?_ | refine next_exit ?_ | refine inb_here ?_ | refine inb_past (by decide) ?_ | refine go_ret ?_ | refine next_ret ?_ | refine inb_ret ?_))
    (apply ends_ok; (case h1 => simp; exact is_rfl); (case h2 => simp; exact is_rfl))
    simp
  have hs' : ¬ ((1000 : Int) < s.length) := by omega
  have hP := Parse_eq s
  have hP' := ParseR_eq s
  have hB := Bytes_eq k l z L hL hX
  have hB' := BytesR_eq k l z L hL hX
  have hA := alive38_eq
  obtain ⟨k', l', z', a, b, c, d, e, f, g, h, hv, _⟩ := parseV_shape s
  rw [hv] at hP hP'
  have hE := same_ino k' l' z' a b c d e f g h
  (refine gives_iff ?_; refine go_func Try.f3 rfl rfl (by simp [Try.f3]) ?_; dsimp only [codeL, Try.f3, scL, sopsL, guardL, dstAt, loopKey])
  (repeat (first
    | (apply is_ok; (case hw => simp [-binV, hL, hs', hP, hP', hB, hB', hA, hE]); (case he => simp [-binV, hL, hs', hP, hP', hB, hB', hA, hE]; exact is_rfl))
    | (apply op_no; (case hw => simp [-binV, hL, hs', hP, hP', hB, hB', hA, hE]))
    | refine op_nil ?_ | refine next_normal ?_ | refine go_seq ?_ | refine go_region ?_ | refine go_skip ?_ | refine go_block ?_ | refine inb_normal ?_
    | (apply go_yes; (case hc => simp [-binV, hL, hs', hP, hP', hB, hB', hA, hE])) | (apply go_no; (case hc => simp [-binV, hL, hs', hP, hP', hB, hB', hA, hE]))
    | refine go_exit ?_ | refine next_exit ?_ | refine inb_here ?_ | refine inb_past (by decide) ?_ | refine go_ret ?_ | refine next_ret ?_ | refine inb_ret ?_))
  (apply ends_ok; (case h1 => simp; exact is_rfl); (case h2 => simp; exact is_rfl))
  simp
/-- An inode's value. -/
theorem ino_of {x : V} (h : ArgT Try.prog 24 x) : ∃ k l z L, x = inoV k l z L ∧ L.length = 8 ∧ In64 (k :: l :: z :: L) := by
  obtain ⟨n, h1, h2⟩ := h
  rw [show aggT Try.prog 24 = some true by kernel_rfl] at h2
  obtain ⟨cs, rfl⟩ := cells_some (Option.some.inj h2).symm
  obtain ⟨m, rfl, h3, h4⟩ := hasT_struct Try.underlying24 h1
  have hl : cs.length = 11 := h3.trans (by kernel_rfl)
  match cs, hl with
  | [c0, c1, c2, c3, c4, c5, c6, c7, c8, c9, c10], _ =>
    obtain ⟨k, e0, i0⟩ := hasT_int Try.underlying3 (h4 0 _ rfl)
    obtain ⟨l, e1, i1⟩ := hasT_int Try.underlying3 (h4 1 _ rfl)
    obtain ⟨z, e2, i2⟩ := hasT_int Try.underlying3 (h4 2 _ rfl)
    have f3 := h4 3 _ rfl
    obtain ⟨m', rfl⟩ := hasT_pos f3
    simp only [HasT, Try.underlying22] at f3
    have hc : Try.prog.cellsOf 3 = 1 := by kernel_rfl
    have hc8 : Try.prog.cellsOf 22 = 8 := by kernel_rfl
    have hf := f3.2
    simp only [hc, hc8, Nat.mul_one] at hf
    obtain ⟨a, e3, i3⟩ := hasT_int Try.underlying3 (hf 0 (by decide))
    obtain ⟨b, e4, i4⟩ := hasT_int Try.underlying3 (hf 1 (by decide))
    obtain ⟨c, e5, i5⟩ := hasT_int Try.underlying3 (hf 2 (by decide))
    obtain ⟨d, e6, i6⟩ := hasT_int Try.underlying3 (hf 3 (by decide))
    obtain ⟨e, e7, i7⟩ := hasT_int Try.underlying3 (hf 4 (by decide))
    obtain ⟨f, e8, i8⟩ := hasT_int Try.underlying3 (hf 5 (by decide))
    obtain ⟨g, e9, i9⟩ := hasT_int Try.underlying3 (hf 6 (by decide))
    obtain ⟨h, e10, i10⟩ := hasT_int Try.underlying3 (hf 7 (by decide))
    have e0' : [c0] = [V.int .i64 k] := e0
    have e1' : [c1] = [V.int .i64 l] := e1
    have e2' : [c2] = [V.int .i64 z] := e2
    have e3' : [c3] = [V.int .i64 a] := e3
    have e4' : [c4] = [V.int .i64 b] := e4
    have e5' : [c5] = [V.int .i64 c] := e5
    have e6' : [c6] = [V.int .i64 d] := e6
    have e7' : [c7] = [V.int .i64 e] := e7
    have e8' : [c8] = [V.int .i64 f] := e8
    have e9' : [c9] = [V.int .i64 g] := e9
    have e10' : [c10] = [V.int .i64 h] := e10
    cases e0'; cases e1'; cases e2'; cases e3'; cases e4'; cases e5'; cases e6'; cases e7'; cases e8'; cases e9'; cases e10'
    refine ⟨k, l, z, [a, b, c, d, e, f, g, h], rfl, rfl, fun x hx => ?_⟩
    simp only [List.mem_cons, List.not_mem_nil, or_false] at hx
    rcases hx with rfl | rfl | rfl | rfl | rfl | rfl | rfl | rfl | rfl | rfl | rfl <;> first | exact wf_i64 i0 | exact wf_i64 i1 | exact wf_i64 i2 | exact wf_i64 i3 | exact wf_i64 i4 | exact wf_i64 i5 | exact wf_i64 i6 | exact wf_i64 i7 | exact wf_i64 i8 | exact wf_i64 i9 | exact wf_i64 i10
end Go.Abs
